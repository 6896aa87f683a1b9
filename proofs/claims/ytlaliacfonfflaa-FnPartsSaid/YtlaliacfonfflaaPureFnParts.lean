/- FnParts answers true for every code: a drawn expression is its parts, one behind the other, and its last Term, and each part begins where FirstOf tells; no condition. -/
import Derived.Test.YtlaliacfonfflaaPFnPartsx6
import Derived.Test.YtlaliacfonfflaaTerm
import Derived.Test.YtlaliacfonfflaaBits
set_option linter.unusedVariables false
set_option linter.unusedSimpArgs false
namespace Go.Proofs.Ytlaliacfonfflaa.Pure
open Go.RowKit Go.Proofs.Ytlaliacfonfflaa.PFnParts Go.Proofs.YtlaliacfonfflaaW.PrintWords Go.Proofs.YtlaliacfonfflaaW.PrintLast Go.Proofs.YtlaliacfonfflaaW.PrintMore Go.Proofs.Ytlaliacfonfflaa.Bs

theorem specTakesOf_eq (a : Int) : spec_TakesOf.f a = some (tks a) := by
  unfold spec_TakesOf.f spec_l1In.f
  by_cases h : 0 ≤ a ∧ a ≤ 17
  · obtain ⟨h0, h1⟩ := h
    obtain ⟨n, rfl⟩ := Int.eq_ofNat_of_zero_le h0
    have : n ≤ 17 := by omega
    have : n = 0 ∨ n = 1 ∨ n = 2 ∨ n = 3 ∨ n = 4 ∨ n = 5 ∨ n = 6 ∨ n = 7 ∨ n = 8 ∨ n = 9 ∨ n = 10 ∨ n = 11 ∨ n = 12 ∨ n = 13 ∨ n = 14 ∨ n = 15 ∨ n = 16 ∨ n = 17 := by omega
    rcases this with h | h | h | h | h | h | h | h | h | h | h | h | h | h | h | h | h | h <;> subst h <;> rfl
  · have e : tks a = -1 := by
      unfold tks
      rw [if_neg (by omega), if_neg (by omega), if_neg (by omega), if_neg (by omega)]
    rw [e]
    by_cases h0 : a ≥ 0
    · rw [if_pos h0]; simp [show ¬ a ≤ 17 by omega]
    · rw [if_neg h0]; simp
theorem implTakesOf_ev (a : Int) : Ev (fun k => impl_TakesOf.f k a) (tks a) := by
  refine ⟨3, fun k hk => ?_⟩
  obtain ⟨k, rfl⟩ : ∃ m, k = m + 3 := ⟨k - 3, by omega⟩
  unfold tks
  by_cases c0 : a = 0
  · subst c0; rfl
  by_cases c1 : a = 1
  · subst c1; rfl
  by_cases c2 : a = 2
  · subst c2; rfl
  by_cases c3 : a = 3
  · subst c3; rfl
  by_cases c4 : a = 4
  · subst c4; rfl
  rw [if_neg (by omega), if_neg (by omega)]
  simp only [impl_TakesOf.f, impl_TakesOf.j0, impl_TakesOf.j1, if_neg c0, if_neg c2, if_neg c3, beq_eq_false_iff_ne.2 c1, beq_eq_false_iff_ne.2 c4, Bool.false_eq_true, if_false]
  by_cases c5 : a ≥ 5
  · simp only [if_pos c5, impl_TakesOf.j2]
    by_cases c6 : a ≤ 16
    · rw [if_pos (by simpa using c6), if_pos (by omega)]
    · rw [if_neg (by simpa using c6), if_neg (show ¬ (5 ≤ a ∧ a ≤ 16) by omega)]
      by_cases c7 : a = 17
      · rw [if_pos c7, if_pos c7]
      · rw [if_neg c7, if_neg c7]
  · simp only [if_neg c5, impl_TakesOf.j2, Bool.false_eq_true, if_false]
    rw [if_neg (by omega), if_neg (by omega), if_neg (by omega)]

def tmI (s : S40) : Tm := ⟨s.f0, s.f1⟩
theorem tmI_inj {a b : S40} (h : tmI a = tmI b) : a = b := by
  cases a; cases b; simp only [tmI, Tm.mk.injEq] at h; obtain ⟨h1, h2⟩ := h; subst h1; subst h2; rfl
theorem rdTm_drop (l : List S40) (i : Nat) (h : i < l.length) : l.drop i = rd_T40 l (i : Int) :: l.drop (i + 1) := by
  simp only [rd_T40, Int.toNat_natCast, List.getD_eq_getElem?_getD, List.getElem?_eq_getElem h, Option.getD_some]
  exact List.drop_eq_getElem_cons h
theorem rdTm_at (l : List S40) (i : Nat) (h : i < l.length) : rd_T40 l (i : Int) = l[i] := by
  simp only [rd_T40, Int.toNat_natCast, List.getD_eq_getElem?_getD, List.getElem?_eq_getElem h, Option.getD_some]

theorem l1In_eq (a b c : Int) : spec_l1In.f a b c = some (decide (b ≤ a) && decide (a ≤ c)) := by
  unfold spec_l1In.f
  by_cases h : a ≥ b
  · rw [if_pos h]; simp [show b ≤ a from h]
  · rw [if_neg h]; simp [show ¬ b ≤ a from h]
theorem specExpOk_l (x : List S40) (hl : x.length ≤ 3000) (d : Nat) : ∀ (i : Nat) (h : Int), i + d = x.length → 0 ≤ h → h ≤ i → Ev (fun k => spec_ExpOk.l0 k x h (i : Int)) (decide (hgt ((x.drop i).map tmI) h = some 1)) := by
  induction d with
  | zero =>
    intro i h hi h0 h1
    refine Ev.step (fun k => by rw [spec_ExpOk.l0]) ?_
    simp only [if_neg (show ¬ (i : Int) < (x.length : Int) by omega)]
    rw [List.drop_of_length_le (show x.length ≤ i by omega)]
    exact (Ev.now _).cast (by rw [Bool.eq_iff_iff]; simp [hgt])
  | succ d ih =>
    intro i h hi h0 h1
    refine Ev.step (fun k => by rw [spec_ExpOk.l0]) ?_
    rw [rdTm_drop x i (by omega), List.map_cons, hgt]
    generalize rd_T40 x (i : Int) = t
    have hr := tks_range t.f0
    have et : (tmI t).op = t.f0 := rfl
    have en : (tmI t).n = t.f1 := rfl
    simp only [if_pos (show (i : Int) < (x.length : Int) by omega), if_pos (show 0 ≤ (i : Int) by omega), specTakesOf_eq, l1In_eq, Option.bind_some, wrap_succ (show i < 9223372036854775807 by omega), et]
    by_cases c : tmOk (tmI t) ∧ tks t.f0 ≤ h
    · rw [if_pos c]
      obtain ⟨⟨c1, c2, c3, c4⟩, c5⟩ := c
      rw [et] at c1 c4
      rw [en] at c2 c3 c4
      have hn : (decide (0 ≤ t.f1) && decide (t.f1 ≤ 255)) = true := by simp; omega
      have hw : wrap64 (wrap64 (h - tks t.f0) + 1) = h + (1 - tks t.f0) := by rw [wrap_id (x := h - tks t.f0) (by omega) (by omega), wrap_id (by omega) (by omega)]; omega
      simp only [if_neg (show ¬ tks t.f0 < 0 by omega), if_neg (show ¬ tks t.f0 > h by omega), hn, if_true, hw]
      have hg := ih (i + 1) (h + (1 - tks t.f0)) (by omega) (by omega) (by omega)
      by_cases c6 : t.f0 > 2
      · simp only [if_pos c6, if_pos (c4 c6)]; exact hg
      · simp only [if_neg c6]; exact hg
    · rw [if_neg c]
      have cf : decide ((none : Option Int) = some 1) = false := by simp
      rw [cf]
      by_cases c1 : tks t.f0 < 0
      · simp only [if_pos c1]; exact Ev.now _
      by_cases c2 : tks t.f0 > h
      · simp only [if_neg c1, if_pos c2]; exact Ev.now _
      by_cases c3 : (decide (0 ≤ t.f1) && decide (t.f1 ≤ 255)) = true
      · have c3' : 0 ≤ t.f1 ∧ t.f1 ≤ 255 := by simpa using c3
        have c4 : t.f0 > 2 ∧ ¬ t.f1 = 0 := by
          refine Classical.byContradiction fun e => c ⟨⟨by rw [et]; omega, by rw [en]; omega, by rw [en]; omega, ?_⟩, by omega⟩
          rw [et, en]; intro e1
          exact Classical.byContradiction fun e2 => e ⟨e1, e2⟩
        simp only [if_neg c1, if_neg c2, c3, if_true, if_pos c4.1, if_neg c4.2]; exact Ev.now _
      · simp only [if_neg c1, if_neg c2, if_neg c3]; exact Ev.now _
theorem specExpOk_ev (x : List S40) (hl : x.length ≤ 1048576) : Ev (fun k => spec_ExpOk.f k x) (expOk (x.map tmI)) := by
  simp only [spec_ExpOk.f]
  by_cases h : (x.length : Int) > 3000
  · simp only [if_pos h]
    exact (Ev.now _).cast (by simp [expOk]; omega)
  · simp only [if_neg h]
    exact (specExpOk_l x (by omega) x.length 0 0 (by omega) (by omega) (by omega)).cast (by simp [expOk]; omega)
theorem implExpOk_l (x : List S40) (hl : x.length ≤ 3000) (d : Nat) : ∀ (i : Nat) (h : Int), i + d = x.length → 0 ≤ h → h ≤ i → Ev (fun k => impl_ExpOk.l0 k h x (x.length : Int) (i : Int)) (decide (hgt ((x.drop i).map tmI) h = some 1)) := by
  induction d with
  | zero =>
    intro i h hi h0 h1
    refine Ev.step (fun k => by rw [impl_ExpOk.l0]) ?_
    simp only [if_neg (show ¬ (i : Int) < (x.length : Int) by omega)]
    rw [List.drop_of_length_le (show x.length ≤ i by omega)]
    exact (Ev.now _).cast (by rw [Bool.eq_iff_iff]; simp [hgt])
  | succ d ih =>
    intro i h hi h0 h1
    refine Ev.step (fun k => by rw [impl_ExpOk.l0]) ?_
    rw [rdTm_drop x i (by omega), List.map_cons, hgt]
    generalize rd_T40 x (i : Int) = t
    have hr := tks_range t.f0
    have et : (tmI t).op = t.f0 := rfl
    have en : (tmI t).n = t.f1 := rfl
    simp only [if_pos (show (i : Int) < (x.length : Int) by omega), if_pos (show 0 ≤ (i : Int) by omega), wrap_succ (show i < 9223372036854775807 by omega), et]
    refine Ev.bind (implTakesOf_ev t.f0) ?_
    by_cases c : tmOk (tmI t) ∧ tks t.f0 ≤ h
    · rw [if_pos c]
      obtain ⟨⟨c1, c2, c3, c4⟩, c5⟩ := c
      rw [et] at c1 c4
      rw [en] at c2 c3 c4
      have hw : wrap64 (h + wrap64 (1 - tks t.f0)) = h + (1 - tks t.f0) := by rw [wrap_id (x := 1 - tks t.f0) (by omega) (by omega), wrap_id (by omega) (by omega)]
      simp only [if_neg (show ¬ tks t.f0 < 0 by omega), if_neg (show ¬ tks t.f0 > h by omega), if_neg (show ¬ t.f1 < 0 by omega), if_neg (show ¬ t.f1 > 255 by omega), hw]
      have hg := ih (i + 1) (h + (1 - tks t.f0)) (by omega) (by omega) (by omega)
      by_cases c6 : t.f0 > 2
      · simp only [if_pos c6, if_pos (c4 c6)]; exact hg
      · simp only [if_neg c6]; exact hg
    · rw [if_neg c]
      have cf : decide ((none : Option Int) = some 1) = false := by simp
      rw [cf]
      by_cases c1 : tks t.f0 < 0
      · simp only [if_pos c1]; exact Ev.now _
      by_cases c2 : tks t.f0 > h
      · simp only [if_neg c1, if_pos c2]; exact Ev.now _
      by_cases c3 : t.f1 < 0
      · simp only [if_neg c1, if_neg c2, if_pos c3]; exact Ev.now _
      by_cases c3' : t.f1 > 255
      · simp only [if_neg c1, if_neg c2, if_neg c3, if_pos c3']; exact Ev.now _
      have c4 : t.f0 > 2 ∧ ¬ t.f1 = 0 := by
        refine Classical.byContradiction fun e => c ⟨⟨by rw [et]; omega, by rw [en]; omega, by rw [en]; omega, ?_⟩, by omega⟩
        rw [et, en]; intro e1
        exact Classical.byContradiction fun e2 => e ⟨e1, e2⟩
      simp only [if_neg c1, if_neg c2, if_neg c3, if_neg c3', if_pos c4.1, if_neg c4.2]; exact Ev.now _
theorem implExpOk_ev (x : List S40) : Ev (fun k => impl_ExpOk.f k x) (expOk (x.map tmI)) := by
  simp only [impl_ExpOk.f]
  by_cases h0 : x.length = 0
  · simp only [if_pos (show (x.length : Int) = 0 by omega)]
    refine Ev.step (fun k => by rw [impl_ExpOk.j0]) ?_
    simp only [if_true]
    exact (Ev.now _).cast (by rw [List.length_eq_zero_iff.1 h0]; simp [expOk, hgt])
  · simp only [if_neg (show ¬ (x.length : Int) = 0 by omega)]
    refine Ev.step (fun k => by rw [impl_ExpOk.j0]) ?_
    by_cases h : (x.length : Int) > 3000
    · simp only [decide_eq_true h, if_true]
      exact (Ev.now _).cast (by simp [expOk]; omega)
    · simp only [decide_eq_false h, Bool.false_eq_true, if_false]
      exact (implExpOk_l x (by omega) x.length 0 0 (by omega) (by omega) (by omega)).cast (by simp [expOk]; omega)

theorem take_rev (x : List S40) (i : Nat) (h : i < x.length) : ((x.take (i + 1)).map tmI).reverse = tmI (rd_T40 x (i : Int)) :: ((x.take i).map tmI).reverse := by
  rw [rdTm_at x i h, List.take_succ_eq_append_getElem h, List.map_append, List.reverse_append]; rfl
/-- In a right expression each place has its begin. -/
theorem first_ex (x : List S40) (h : expOk (x.map tmI) = true) {i : Nat} (hi : i < x.length) : ∃ r : Nat, bk ((x.take (i + 1)).map tmI).reverse 1 = some r := by
  obtain ⟨st, a, ho, he⟩ := exp_at h (i := i) (by simpa using hi)
  rw [List.map_take, he, bk_begin ho.1]
  exact ⟨_, rfl⟩
theorem expOk_len {x : List S40} (h : expOk (x.map tmI) = true) : x.length ≤ 3000 := by
  simp only [expOk, Bool.and_eq_true, decide_eq_true_eq, List.length_map] at h
  exact h.1
theorem expOk_pos {x : List S40} (h : expOk (x.map tmI) = true) : 0 < x.length := by
  obtain ⟨a, _, h2, _⟩ := exp_tree h
  have := a.flat_pos
  rw [h2, List.length_map] at this; exact this

def unI (t : Tm) : S40 := ⟨t.op, t.n⟩
theorem unI_map (x : List S40) : (x.map tmI).map unI = x := by
  rw [List.map_map]
  conv => rhs; rw [← List.map_id x]
  rfl
theorem tmI_map (x : List Tm) : (x.map unI).map tmI = x := by
  rw [List.map_map]
  conv => rhs; rw [← List.map_id x]
  rfl
/-- These Terms are one tree. -/
def IsTr (s : List S40) : Prop := ∃ a : Tr, a.Ok ∧ a.flat = s.map tmI
theorem IsTr.pos {s : List S40} (h : IsTr s) : 0 < s.length := by
  obtain ⟨a, _, h2⟩ := h
  have := a.flat_pos
  rw [h2, List.length_map] at this; exact this
theorem IsTr.ok {s : List S40} (h : IsTr s) (hl : s.length ≤ 3000) : expOk (s.map tmI) = true := by
  obtain ⟨a, h1, h2⟩ := h
  rw [← h2]; exact tree_exp h1 (by rw [h2, List.length_map]; exact hl)
theorem kids_ok {a : Tr} (h : a.Ok) : ∀ k ∈ a.kids, ∃ b : Tr, b.Ok ∧ b.flat = k := by
  intro k hk
  cases a with
  | t0 t => simp [Tr.kids] at hk
  | t1 t a => simp only [Tr.kids, List.mem_singleton] at hk; subst hk; exact ⟨a, h.2.2, rfl⟩
  | t2 t a b =>
    simp only [Tr.kids, List.mem_cons, List.not_mem_nil, or_false] at hk
    rcases hk with rfl | rfl
    · exact ⟨a, h.2.2.1, rfl⟩
    · exact ⟨b, h.2.2.2, rfl⟩
  | t3 t a b c =>
    simp only [Tr.kids, List.mem_cons, List.not_mem_nil, or_false] at hk
    rcases hk with rfl | rfl | rfl
    · exact ⟨a, h.2.2.1, rfl⟩
    · exact ⟨b, h.2.2.2.1, rfl⟩
    · exact ⟨c, h.2.2.2.2, rfl⟩
/-- A right expression: its parts, and its last Term. -/
theorem parts_ex {x : List S40} (h : expOk (x.map tmI) = true) : ∃ (ks : List (List S40)) (t : S40), x = ks.flatten ++ [t] ∧ (∀ s ∈ ks, IsTr s) ∧ (ks.length : Int) = tks t.f0 ∧ ks.length ≤ 3 ∧ IsTr x := by
  obtain ⟨a, ho, hf, _⟩ := exp_tree h
  have hk := Tr.kids_len ho
  have hr := tks_range a.last.op
  refine ⟨a.kids.map (List.map unI), unI a.last, ?_, ?_, ?_, ?_, ⟨a, ho, hf⟩⟩
  · rw [← unI_map x, ← hf, Tr.flat_kids, List.map_append, List.map_flatten]; rfl
  · intro s hs
    obtain ⟨k, hk, rfl⟩ := List.mem_map.1 hs
    obtain ⟨b, h1, h2⟩ := kids_ok ho k hk
    exact ⟨b, h1, by rw [tmI_map]; exact h2⟩
  · rw [List.length_map]; exact hk
  · rw [List.length_map]; omega
/-- From the end of a part back to its begin. -/
theorem seg_bk {p s r : List S40} (h : IsTr s) : bk (((p ++ s ++ r).take (p.length + s.length)).map tmI).reverse 1 = some p.length := by
  obtain ⟨a, h1, h2⟩ := h
  rw [show (p ++ s ++ r).take (p.length + s.length) = p ++ s by rw [← List.length_append]; exact List.take_left, List.map_append, ← h2, bk_begin h1, List.length_map]
theorem ks_split (ks : List (List S40)) (i : Nat) (h : i < ks.length) : ks.flatten = (ks.take i).flatten ++ ks[i] ++ (ks.drop (i + 1)).flatten := by
  conv => lhs; rw [← List.take_append_drop i ks]
  rw [List.flatten_append, List.drop_eq_getElem_cons h, List.flatten_cons, List.append_assoc]
theorem ks_take (ks : List (List S40)) (i : Nat) (h : i < ks.length) : (ks.take (i + 1)).flatten = (ks.take i).flatten ++ ks[i] := by
  rw [List.take_succ_eq_append_getElem h, List.flatten_append, List.flatten_cons, List.flatten_nil, List.append_nil]
theorem last_rd (y : List S40) (t : S40) : rd_T40 (y ++ [t]) (y.length : Int) = t := by
  rw [rdTm_at _ _ (by simp)]; simp

theorem beginOf_l (x : List S40) (hx : x.length ≤ 3000) (r : Nat) (i : Nat) : ∀ n : Int, i < x.length → n ≤ 4 * ((x.length : Int) - i) → -4 * ((x.length : Int) - i) ≤ n → bk ((x.take (i + 1)).map tmI).reverse n = some r → Ev (fun k => impl_beginOf.l0 k x (i : Int) n) (r : Int) := by
  induction i with
  | zero =>
    intro n hi h1 h2 hb
    refine Ev.step (fun k => by rw [impl_beginOf.l0]) ?_
    rw [take_rev x 0 hi, bk] at hb
    have hr := tks_range (rd_T40 x ((0 : Nat) : Int)).f0
    have et : (tmI (rd_T40 x ((0 : Nat) : Int))).op = (rd_T40 x ((0 : Nat) : Int)).f0 := rfl
    rw [et] at hb
    have hw : wrap64 (n + wrap64 (tks (rd_T40 x ((0 : Nat) : Int)).f0 - 1)) = n - 1 + tks (rd_T40 x ((0 : Nat) : Int)).f0 := by rw [wrap_id (x := tks (rd_T40 x ((0 : Nat) : Int)).f0 - 1) (by omega) (by omega), wrap_id (by omega) (by omega)]; omega
    simp only [if_pos (show 0 ≤ ((0 : Nat) : Int) by omega), if_pos (show ((0 : Nat) : Int) < (x.length : Int) by omega)]
    refine Ev.bind (implTakesOf_ev _) ?_
    simp only [hw]
    by_cases c : n - 1 + tks (rd_T40 x ((0 : Nat) : Int)).f0 = 0
    · rw [if_pos c] at hb
      simp only [if_pos c]
      simp at hb
      subst hb; exact Ev.now _
    · rw [if_neg c] at hb
      simp [bk] at hb
  | succ i ih =>
    intro n hi h1 h2 hb
    refine Ev.step (fun k => by rw [impl_beginOf.l0]) ?_
    rw [take_rev x (i + 1) hi, bk] at hb
    have hr := tks_range (rd_T40 x ((i + 1 : Nat) : Int)).f0
    have et : (tmI (rd_T40 x ((i + 1 : Nat) : Int))).op = (rd_T40 x ((i + 1 : Nat) : Int)).f0 := rfl
    rw [et] at hb
    have hw : wrap64 (n + wrap64 (tks (rd_T40 x ((i + 1 : Nat) : Int)).f0 - 1)) = n - 1 + tks (rd_T40 x ((i + 1 : Nat) : Int)).f0 := by rw [wrap_id (x := tks (rd_T40 x ((i + 1 : Nat) : Int)).f0 - 1) (by omega) (by omega), wrap_id (by omega) (by omega)]; omega
    simp only [if_pos (show 0 ≤ ((i + 1 : Nat) : Int) by omega), if_pos (show ((i + 1 : Nat) : Int) < (x.length : Int) by omega), wrap_pred (show i < 9223372036854775807 by omega)]
    refine Ev.bind (implTakesOf_ev _) ?_
    simp only [hw]
    by_cases c : n - 1 + tks (rd_T40 x ((i + 1 : Nat) : Int)).f0 = 0
    · rw [if_pos c] at hb
      simp only [if_pos c]
      have hr' : r = i + 1 := by
        have := Option.some.inj hb
        rw [← this]; simp; omega
      subst hr'; exact Ev.now _
    · rw [if_neg c] at hb
      simp only [if_neg c]
      exact ih _ (by omega) (by omega) (by omega) hb
theorem beginOf_ev (x : List S40) (hx : x.length ≤ 3000) {r i : Nat} (hi : i < x.length) (hb : bk ((x.take (i + 1)).map tmI).reverse 1 = some r) : Ev (fun k => impl_beginOf.f k x (i : Int)) (r : Int) := by
  simp only [impl_beginOf.f]
  exact beginOf_l x hx r i 1 hi (by omega) (by omega) hb

theorem ownTerms_eq (l : List S40) (h : l.length ≤ 1048576) : impl_ownTerms.f l = some l := by
  simp only [impl_ownTerms.f, Option.bind_some, List.length_nil, List.nil_append]
  rw [if_pos (by omega)]
theorem implParts_l (ks : List (List S40)) (t : S40) (hk : ∀ s ∈ ks, IsTr s) (hl : (ks.flatten ++ [t]).length ≤ 3000) (h3 : ks.length ≤ 3) (i : Nat) : ∀ (out : List (List S40)) (y : Int), i ≤ ks.length → y = (i : Int) - 1 → out.length = ks.length → out.drop i = ks.drop i → Ev (fun k => impl_PartsOf.l0 k (ks.flatten ++ [t]) (((ks.take i).flatten.length : Nat) : Int) out y) ks := by
  induction i with
  | zero =>
    intro out y hi hy ho hd
    refine Ev.step (fun k => by rw [impl_PartsOf.l0]) ?_
    simp only [if_neg (show ¬ y ≥ 0 by omega)]
    rw [List.drop_zero, List.drop_zero] at hd
    subst hd; exact Ev.now _
  | succ i ih =>
    intro out y hi hy ho hd
    have hs := hk ks[i] (List.getElem_mem _)
    have hp := hs.pos
    have e1 := ks_split ks i hi
    have e2 := ks_take ks i hi
    have hb := seg_bk (p := (ks.take i).flatten) (r := (ks.drop (i + 1)).flatten ++ [t]) hs
    have e3 : ks.flatten ++ [t] = (ks.take i).flatten ++ ks[i] ++ ((ks.drop (i + 1)).flatten ++ [t]) := by rw [e1]; simp
    have hlen : (ks.take i).flatten.length + ks[i].length ≤ (ks.flatten ++ [t]).length := by rw [e3]; simp
    rw [← e3] at hb
    have hN : (ks.take (i + 1)).flatten.length = (ks.take i).flatten.length + ks[i].length := by rw [e2, List.length_append]
    have hdrop : ((ks.flatten ++ [t]).take ((ks.take i).flatten.length + ks[i].length)).drop (ks.take i).flatten.length = ks[i] := by
      rw [e3, ← List.length_append, List.take_left, List.drop_left]
    rw [hN]
    have hsl : ks[i].length ≤ 1048576 := by omega
    generalize hx : ks.flatten ++ [t] = x at *
    generalize hP : (ks.take i).flatten.length = P at *
    have hown := ownTerms_eq ks[i] hsl
    generalize hS : ks[i] = s at *
    have hw : wrap64 (((P + s.length : Nat) : Int) - 1) = ((P + s.length - 1 : Nat) : Int) := by rw [wrap_id (by omega) (by omega)]; omega
    refine Ev.step (fun k => by rw [impl_PartsOf.l0]) ?_
    simp only [if_pos (show y ≥ 0 by omega), hw]
    refine Ev.bind (beginOf_ev x hl (i := P + s.length - 1) (r := P) (by omega) (by rw [show P + s.length - 1 + 1 = P + s.length by omega]; exact hb)) ?_
    have hy' : y = (i : Int) := by omega
    have hwy : wrap64 (y - 1) = (i : Int) - 1 := by rw [wrap_id (by omega) (by omega)]; omega
    simp only [if_pos (show 0 ≤ (P : Int) by omega), if_pos (show (P : Int) ≤ ((P + s.length : Nat) : Int) by omega), if_pos (show ((P + s.length : Nat) : Int) ≤ (x.length : Int) by omega), Int.toNat_natCast, hdrop, hown, Option.bind_some, if_pos (show 0 ≤ y by omega), if_pos (show y < (out.length : Int) by omega), hwy]
    rw [hy', Int.toNat_natCast]
    refine ih (out.set i s) _ (by omega) rfl (by rw [List.length_set]; exact ho) ?_
    rw [List.drop_eq_getElem_cons (show i < (out.set i s).length by rw [List.length_set]; omega), List.getElem_set_self, List.drop_set_of_lt (by omega), hd, List.drop_eq_getElem_cons (show i < ks.length from hi), hS]
theorem implParts_ok (ks : List (List S40)) (t : S40) (h : expOk ((ks.flatten ++ [t]).map tmI) = true) (hk : ∀ s ∈ ks, IsTr s) (ht : (ks.length : Int) = tks t.f0) (h3 : ks.length ≤ 3) : Ev (fun k => impl_PartsOf.f k (ks.flatten ++ [t])) ks := by
  have hl := expOk_len h
  have hlen : (ks.flatten ++ [t]).length = ks.flatten.length + 1 := by simp
  have hw : wrap64 (((ks.flatten ++ [t]).length : Int) - 1) = ((ks.flatten.length : Nat) : Int) := by rw [hlen]; exact wrap_pred (by omega)
  simp only [impl_PartsOf.f]
  refine Ev.bind (implExpOk_ev _) ?_
  simp only [if_pos h, hw, if_pos (show 0 ≤ ((ks.flatten.length : Nat) : Int) by omega), if_pos (show ((ks.flatten.length : Nat) : Int) < ((ks.flatten ++ [t]).length : Int) by omega), last_rd]
  refine Ev.bind (implTakesOf_ev _) ?_
  simp only [← ht, Int.toNat_natCast, if_pos (show 0 ≤ (ks.length : Int) by omega), if_pos (show ks.length ≤ 11728124029610 by omega), Option.bind_some, List.length_replicate]
  have hl0 := implParts_l ks t hk hl h3 ks.length (List.replicate ks.length []) (wrap64 ((ks.length : Int) - 1)) (Nat.le_refl _) (wrap_id (by omega) (by omega)) (by simp) (by simp)
  rw [List.take_length] at hl0
  exact hl0
theorem implParts_no (x : List S40) (h : ¬ expOk (x.map tmI) = true) : Ev (fun k => impl_PartsOf.f k x) [] := by
  simp only [impl_PartsOf.f]
  refine Ev.bind (implExpOk_ev _) ?_
  simp only [if_neg h]
  exact Ev.now _

theorem likeTerms_l (a : List S40) (ha : a.length ≤ 1048576) (d : Nat) : ∀ (i : Nat), i + d = a.length → Ev (fun k => laws_likeTerms.l0 k a a (i : Int)) true := by
  induction d with
  | zero =>
    intro i hi
    refine Ev.step (fun k => by rw [laws_likeTerms.l0]) ?_
    simp only [if_neg (show ¬ (i : Int) < (a.length : Int) by omega)]
    exact Ev.now _
  | succ d ih =>
    intro i hi
    refine Ev.step (fun k => by rw [laws_likeTerms.l0]) ?_
    simp only [if_pos (show (i : Int) < (a.length : Int) by omega), if_pos (show 0 ≤ (i : Int) by omega), wrap_succ (show i < 9223372036854775807 by omega), beq_self_eq_true, Bool.not_true, Bool.or_self, Bool.false_eq_true, if_false]
    exact ih (i + 1) (by omega)
theorem likeTerms_ev (a : List S40) (ha : a.length ≤ 1048576) : Ev (fun k => laws_likeTerms.f k a a) true := by
  simp only [laws_likeTerms.f, if_true]
  exact likeTerms_l a ha a.length 0 (by omega)

theorem l1New_l (s : List Int) (hs : s.length ≤ 4611686018427387904) (d : Nat) : ∀ (i : Nat) (h : Int), i + d = s.length → ∃ h', Ev (fun k => spec_l1New.l0 k s h (i : Int)) (s, 0, h') := by
  induction d with
  | zero =>
    intro i h hi
    refine ⟨h, Ev.step (fun k => by rw [spec_l1New.l0]) ?_⟩
    simp only [if_neg (show ¬ (i : Int) < (s.length : Int) by omega)]
    exact Ev.now _
  | succ d ih =>
    intro i h hi
    obtain ⟨h', e⟩ := ih (i + 1) (Go.bits .and .i64 (wrap64 ((wrap64 ((wrap64 (h * 181)) + (wrap64 (rd s (i : Int))))) + 11)) 1073741823) (by omega)
    refine ⟨h', Ev.step (fun k => by rw [spec_l1New.l0]) ?_⟩
    simp only [if_pos (show (i : Int) < (s.length : Int) by omega), if_pos (show 0 ≤ (i : Int) by omega), wrap_succ (show i < 9223372036854775807 by omega)]
    exact e
theorem l1New_ex (s : List Int) (hs : s.length ≤ 4611686018427387904) : ∃ h', Ev (fun k => spec_l1New.f k s) (s, 0, h') := by
  simp only [spec_l1New.f]
  exact l1New_l s hs s.length 0 _ (by omega)

theorem l1Byte_ex (s : List Int) (i h : Int) (h0 : 0 ≤ i) (h1 : i ≤ (s.length : Int)) (hs : s.length ≤ 4611686018427387904) : ∃ b i' h', spec_l1Byte.f s i h = some (b, i', h') ∧ 0 ≤ b ∧ b ≤ 255 ∧ 0 ≤ i' ∧ i' ≤ (s.length : Int) := by
  unfold spec_l1Byte.f
  by_cases c : i < (s.length : Int)
  · rw [if_pos c, if_pos h0]
    have hm := and_mask (wrap64 ((Go.bits .and .i64 (Go.bits .xor .i64 ((wrap64 ((wrap64 (h * 6364136223846793005)) + 1442695040888963407)) / 8589934592) ((wrap64 ((wrap64 (h * 6364136223846793005)) + 1442695040888963407)) / 35184372088832)) 255) + (wrap64 (rd s i)))) 255 (by decide)
    exact ⟨_, _, _, rfl, hm.1, hm.2, by rw [wrap_id (by omega) (by omega)]; omega, by rw [wrap_id (by omega) (by omega)]; omega⟩
  · rw [if_neg c]
    have hm := and_mask (Go.bits .xor .i64 ((wrap64 ((wrap64 (h * 6364136223846793005)) + 1442695040888963407)) / 8589934592) ((wrap64 ((wrap64 (h * 6364136223846793005)) + 1442695040888963407)) / 35184372088832)) 255 (by decide)
    exact ⟨_, _, _, rfl, hm.1, hm.2, h0, h1⟩
theorem l1Below_ex (s : List Int) (hs : s.length ≤ 4611686018427387904) (i h a : Int) (h0 : 0 ≤ i) (h1 : i ≤ (s.length : Int)) : ∃ b i' h', spec_l1Below.f s i h a = some (b, i', h') ∧ 0 ≤ b ∧ (0 < a → b < a) ∧ (a ≤ 0 → b = 0) ∧ 0 ≤ i' ∧ i' ≤ (s.length : Int) := by
  unfold spec_l1Below.f
  by_cases c : a ≤ 0
  · rw [if_pos c]
    exact ⟨0, i, h, rfl, by omega, by omega, by omega, h0, h1⟩
  rw [if_neg c]
  obtain ⟨b1, i1, g1, e1, x1, y1, z1, w1⟩ := l1Byte_ex s i h h0 h1 hs
  by_cases c2 : a ≤ 256
  · rw [if_pos c2, e1]
    simp only [Option.bind_some, if_neg (show ¬ a = 0 by omega)]
    have hm := Int.emod_lt_of_pos b1 (show 0 < a by omega)
    have hn := Int.emod_nonneg b1 (show a ≠ 0 by omega)
    rw [← Int.tmod_eq_emod_of_nonneg x1] at hm hn
    exact ⟨_, _, _, rfl, hn, fun _ => hm, by omega, z1, w1⟩
  · obtain ⟨b2, i2, g2, e2, x2, y2, z2, w2⟩ := l1Byte_ex s i1 g1 z1 w1 hs
    obtain ⟨b3, i3, g3, e3, x3, y3, z3, w3⟩ := l1Byte_ex s i2 g2 z2 w2 hs
    obtain ⟨b4, i4, g4, e4, x4, y4, z4, w4⟩ := l1Byte_ex s i3 g3 z3 w3 hs
    rw [if_neg c2]
    simp only [e1, e2, e3, e4, Option.bind_some, if_neg (show ¬ a = 0 by omega)]
    have hw : wrap64 ((wrap64 ((wrap64 ((wrap64 (b1 * 16777216)) + (wrap64 (b2 * 65536)))) + (wrap64 (b3 * 256)))) + b4) = b1 * 16777216 + b2 * 65536 + b3 * 256 + b4 := by
      rw [wrap_id (x := b1 * 16777216) (by omega) (by omega), wrap_id (x := b2 * 65536) (by omega) (by omega), wrap_id (x := b3 * 256) (by omega) (by omega), wrap_id (x := b1 * 16777216 + b2 * 65536) (by omega) (by omega), wrap_id (x := b1 * 16777216 + b2 * 65536 + b3 * 256) (by omega) (by omega), wrap_id (by omega) (by omega)]
    rw [hw]
    have hm := Int.emod_lt_of_pos (b1 * 16777216 + b2 * 65536 + b3 * 256 + b4) (show 0 < a by omega)
    have hn := Int.emod_nonneg (b1 * 16777216 + b2 * 65536 + b3 * 256 + b4) (show a ≠ 0 by omega)
    rw [← Int.tmod_eq_emod_of_nonneg (show 0 ≤ b1 * 16777216 + b2 * 65536 + b3 * 256 + b4 by omega)] at hm hn
    exact ⟨_, _, _, rfl, hn, fun _ => hm, by omega, z4, w4⟩
theorem l1Once_ex (s : List Int) (hs : s.length ≤ 4611686018427387904) (i h a : Int) (h0 : 0 ≤ i) (h1 : i ≤ (s.length : Int)) : ∃ b i' h', spec_l1Once.f s i h a = some (b, i', h') ∧ 0 ≤ i' ∧ i' ≤ (s.length : Int) := by
  obtain ⟨b, i', h', e, _, _, _, x, y⟩ := l1Below_ex s hs i h a h0 h1
  unfold spec_l1Once.f
  simp only [e, Option.bind_some]
  exact ⟨_, _, _, rfl, x, y⟩

theorem l1Odd_ex (s : List Int) (hs : s.length ≤ 4611686018427387904) (i h : Int) (h0 : 0 ≤ i) (h1 : i ≤ (s.length : Int)) : ∃ r i' h', spec_l1Odd.f s i h = some (r, i', h') ∧ 0 ≤ i' ∧ i' ≤ (s.length : Int) := by
  obtain ⟨v, i1, g1, e1, v0, v1, _, p1, q1⟩ := l1Below_ex s hs i h 10 h0 h1
  have v2 := v1 (by omega)
  unfold spec_l1Odd.f
  simp only [Option.bind_some, e1, if_pos v0]
  rw [if_pos (by simpa using v2)]
  exact ⟨_, _, _, rfl, p1, q1⟩

theorem l1From_ex (s : List Int) (hs : s.length ≤ 4611686018427387904) (i h a b : Int) (h0 : 0 ≤ i) (h1 : i ≤ (s.length : Int)) (ha : -1000 ≤ a ∧ a ≤ b) (hb : b ≤ 1000) : ∃ r i' h', spec_l1From.f s i h a b = some (r, i', h') ∧ a ≤ r ∧ r ≤ b ∧ 0 ≤ i' ∧ i' ≤ (s.length : Int) := by
  unfold spec_l1From.f
  have hw : wrap64 (wrap64 (b - a) + 1) = b - a + 1 := by rw [wrap_id (x := b - a) (by omega) (by omega), wrap_id (by omega) (by omega)]
  obtain ⟨r, i', h', e, p, q, _, x, y⟩ := l1Below_ex s hs i h (b - a + 1) h0 h1
  have := q (by omega)
  simp only [hw, e, Option.bind_some]
  exact ⟨_, _, _, rfl, by rw [wrap_id (by omega) (by omega)]; omega, by rw [wrap_id (by omega) (by omega)]; omega, x, y⟩

theorem l1Num_ex (s : List Int) (hs : s.length ≤ 4611686018427387904) (i h a : Int) (h0 : 0 ≤ i) (h1 : i ≤ (s.length : Int)) : ∃ r i' h', spec_l1Num.f s i h a = some (r, i', h') ∧ 0 ≤ i' ∧ i' ≤ (s.length : Int) := by
  obtain ⟨b, i1, g1, e1, p1, q1⟩ := l1Once_ex s hs i h 10 h0 h1
  simp only [spec_l1Num.f, e1, Option.bind_some]
  by_cases c : b = true
  · obtain ⟨o, i2, g2, e2, p2, q2⟩ := l1Odd_ex s hs i1 g1 p1 q1
    obtain ⟨u, i3, g3, e3, u0, u1, _, p3, q3⟩ := l1Below_ex s hs i2 g2 4 p2 q2
    have u2 := u1 (by omega)
    simp only [if_pos c, e2, e3, Option.bind_some, if_pos u0]
    rw [if_pos (by simpa using u2)]
    exact ⟨_, _, _, rfl, p3, q3⟩
  · obtain ⟨b2, i2, g2, e2, p2, q2⟩ := l1Once_ex s hs i1 g1 2 p1 q1
    simp only [if_neg c, e2, Option.bind_some]
    by_cases c2 : b2 = true
    · have hm : ∃ m, spec_l1Min.f a 4 = some m := by
        simp only [spec_l1Min.f]
        split <;> exact ⟨_, rfl⟩
      obtain ⟨m, hm⟩ := hm
      obtain ⟨u, i3, g3, e3, u0, u1, _, p3, q3⟩ := l1Below_ex s hs i2 g2 (wrap64 (m + 1)) p2 q2
      simp only [if_pos c2, hm, e3, Option.bind_some]
      exact ⟨_, _, _, rfl, p3, q3⟩
    · obtain ⟨u, i3, g3, e3, u0, u1, _, p3, q3⟩ := l1Below_ex s hs i2 g2 (wrap64 (a + 1)) p2 q2
      simp only [if_neg c2, e3, Option.bind_some]
      exact ⟨_, _, _, rfl, p3, q3⟩
/-- How long a drawn expression of this depth may be. -/
def dlen : Nat → Nat
  | 0 => 1
  | d + 1 => 3 * dlen d + 1
theorem dlen_le {d : Nat} (h : d ≤ 4) : dlen d ≤ 121 := by
  have : d = 0 ∨ d = 1 ∨ d = 2 ∨ d = 3 ∨ d = 4 := by omega
  rcases this with rfl | rfl | rfl | rfl | rfl <;> decide
theorem dlen_pos (d : Nat) : 1 ≤ dlen d := by cases d <;> simp [dlen]
theorem tks_mid {a : Int} (h0 : 2 ≤ a) (h1 : a ≤ 17) : 0 ≤ tks a ∧ tks a ≤ 3 := by
  unfold tks
  rw [if_neg (by omega)]
  split
  · omega
  split
  · omega
  split <;> omega
theorem l2Draw_l (s : List Int) (hs : s.length ≤ 4611686018427387904) (x1 x2 x3 x4 : Int) (x5 : Bool) (x13 : Int) (B : Nat) (hB : B ≤ 121)
    (ih : ∀ (i h : Int), 0 ≤ i → i ≤ (s.length : Int) → ∃ r i' h', Ev (fun k => spec_l2Draw.f k s i h x1 x2 x3 (wrap64 (x4 - 1)) x5) (r, i', h') ∧ 1 ≤ r.length ∧ r.length ≤ B ∧ 0 ≤ i' ∧ i' ≤ (s.length : Int)) (n : Nat) :
    ∀ (x : List S40) (i h : Int) (M : Nat), n ≤ 3 → M = n * B → x.length + M ≤ 363 → 0 ≤ i → i ≤ (s.length : Int) → ∃ r i' h', Ev (fun k => spec_l2Draw.l0 k x1 x2 x3 x4 x5 x13 x (n : Int) s i h) (r, i', h') ∧ 1 ≤ r.length ∧ r.length ≤ x.length + M + 1 ∧ 0 ≤ i' ∧ i' ≤ (s.length : Int) := by
  induction n with
  | zero =>
    intro x i h M hn hM hx h0 h1
    by_cases c : x13 = 2
    · obtain ⟨v, i1, g1, e1, v0, v1, _, p1, q1⟩ := l1Below_ex s hs i h x2 h0 h1
      refine ⟨x ++ [⟨x13, v⟩], i1, g1, Ev.step (fun k => by rw [spec_l2Draw.l0]) ?_, by simp, by rw [List.length_append]; simp, p1, q1⟩
      simp only [if_neg (show ¬ ((0 : Nat) : Int) > 0 by omega), if_pos c, e1, Option.bind_some, if_pos (show x.length < 8796093022208 by omega)]
      exact Ev.now _
    · refine ⟨x ++ [⟨x13, 0⟩], i, h, Ev.step (fun k => by rw [spec_l2Draw.l0]) ?_, by simp, by rw [List.length_append]; simp, h0, h1⟩
      simp only [if_neg (show ¬ ((0 : Nat) : Int) > 0 by omega), if_neg c, if_pos (show x.length < 8796093022208 by omega)]
      exact Ev.now _
  | succ n ihn =>
    intro x i h M hn hM hx h0 h1
    rw [Nat.succ_mul] at hM
    obtain ⟨r1, i1, g1, e1, a1, b1, p1, q1⟩ := ih i h h0 h1
    generalize hM' : n * B = M' at hM
    obtain ⟨r, i', h', e, a, b, p, q⟩ := ihn (x ++ r1) i1 g1 M' (by omega) hM'.symm (by rw [List.length_append]; omega) p1 q1
    rw [List.length_append] at b
    refine ⟨r, i', h', Ev.step (fun k => by rw [spec_l2Draw.l0]) ?_, a, by omega, p, q⟩
    simp only [if_pos (show ((n + 1 : Nat) : Int) > 0 by omega)]
    refine Ev.bind e1 ?_
    simp only [if_pos (show x.length + r1.length < 8796093022208 by omega), wrap_pred (show n < 9223372036854775807 by omega)]
    exact e
theorem l2Draw_j1 (s : List Int) (hs : s.length ≤ 4611686018427387904) (x1 x3 : Int) (b : Bool) (i h : Int) (h0 : 0 ≤ i) (h1 : i ≤ (s.length : Int)) : ∃ r i' h', Ev (fun k => spec_l2Draw.j1 k x1 x3 b s i h) (r, i', h') ∧ r.length = 1 ∧ 0 ≤ i' ∧ i' ≤ (s.length : Int) := by
  by_cases c : b = true
  · obtain ⟨v, i1, g1, e1, _, _, _, p1, q1⟩ := l1Below_ex s hs i h x1 h0 h1
    refine ⟨[⟨1, v⟩], i1, g1, Ev.step (fun k => by rw [spec_l2Draw.j1]) ?_, rfl, p1, q1⟩
    simp only [if_pos c, e1, Option.bind_some]
    exact Ev.now _
  · obtain ⟨v, i1, g1, e1, _, _, _, p1, q1⟩ := l1Below_ex s hs i h x3 h0 h1
    refine ⟨[⟨0, v⟩], i1, g1, Ev.step (fun k => by rw [spec_l2Draw.j1]) ?_, rfl, p1, q1⟩
    simp only [if_neg c, e1, Option.bind_some]
    exact Ev.now _
theorem l2Draw_leaf (s : List Int) (hs : s.length ≤ 4611686018427387904) (x1 x2 x3 x4 : Int) (x5 : Bool) (i h : Int) (h0 : 0 ≤ i) (h1 : i ≤ (s.length : Int)) : ∃ r i' h', Ev (fun k => spec_l2Draw.j0 k x1 x2 x3 x4 x5 true s i h) (r, i', h') ∧ r.length = 1 ∧ 0 ≤ i' ∧ i' ≤ (s.length : Int) := by
  by_cases c : x1 > 0
  · obtain ⟨b, i1, g1, e1, p1, q1⟩ := l1Once_ex s hs i h 3 h0 h1
    obtain ⟨r, i', h', e, l, p, q⟩ := l2Draw_j1 s hs x1 x3 (!b) i1 g1 p1 q1
    refine ⟨r, i', h', Ev.step (fun k => by rw [spec_l2Draw.j0]) ?_, l, p, q⟩
    simp only [if_true, if_pos c, e1, Option.bind_some]
    exact e
  · obtain ⟨r, i', h', e, l, p, q⟩ := l2Draw_j1 s hs x1 x3 false i h h0 h1
    refine ⟨r, i', h', Ev.step (fun k => by rw [spec_l2Draw.j0]) ?_, l, p, q⟩
    simp only [if_true, if_neg c]
    exact e
theorem l2Draw_ex (s : List Int) (hs : s.length ≤ 4611686018427387904) (x1 x2 x3 : Int) (x5 : Bool) (d : Nat) : ∀ (i h : Int), d ≤ 4 → 0 ≤ i → i ≤ (s.length : Int) → ∃ r i' h', Ev (fun k => spec_l2Draw.f k s i h x1 x2 x3 (d : Int) x5) (r, i', h') ∧ 1 ≤ r.length ∧ r.length ≤ dlen d ∧ 0 ≤ i' ∧ i' ≤ (s.length : Int) := by
  induction d with
  | zero =>
    intro i h hd h0 h1
    obtain ⟨r, i', h', e, l, p, q⟩ := l2Draw_leaf s hs x1 x2 x3 ((0 : Nat) : Int) x5 i h h0 h1
    refine ⟨r, i', h', Ev.step (fun k => by rw [spec_l2Draw.f]) ?_, by omega, by rw [l]; exact dlen_pos 0, p, q⟩
    simp only [if_pos (show ((0 : Nat) : Int) ≤ 0 by omega)]
    exact e
  | succ d ih =>
    intro i h hd h0 h1
    obtain ⟨b, i1, g1, e1, p1, q1⟩ := l1Once_ex s hs i h 4 h0 h1
    by_cases c : b = true
    · subst c
      obtain ⟨r, i', h', e, l, p, q⟩ := l2Draw_leaf s hs x1 x2 x3 ((d + 1 : Nat) : Int) x5 i1 g1 p1 q1
      refine ⟨r, i', h', Ev.step (fun k => by rw [spec_l2Draw.f]) ?_, by omega, by rw [l]; exact dlen_pos _, p, q⟩
      simp only [if_neg (show ¬ ((d + 1 : Nat) : Int) ≤ 0 by omega), e1, Option.bind_some]
      exact e
    · -- an inner Term: the op, then its parts
      have hB : dlen d ≤ 121 := dlen_le (by omega)
      have hj5 : ∀ (op i h : Int), 2 ≤ op → op ≤ 17 → 0 ≤ i → i ≤ (s.length : Int) → ∃ r i' h', Ev (fun k => spec_l2Draw.j5 k x1 x2 x3 ((d + 1 : Nat) : Int) x5 op s i h) (r, i', h') ∧ 1 ≤ r.length ∧ r.length ≤ dlen (d + 1) ∧ 0 ≤ i' ∧ i' ≤ (s.length : Int) := by
        intro op i h o0 o1 h0 h1
        have ht := tks_mid o0 o1
        obtain ⟨n, hn⟩ := Int.eq_ofNat_of_zero_le ht.1
        have hn3 : n ≤ 3 := by omega
        have hm : n * dlen d ≤ 3 * dlen d := Nat.mul_le_mul_right _ hn3
        generalize hM : n * dlen d = M at hm
        obtain ⟨r, i', h', e, a, b, p, q⟩ := l2Draw_l s hs x1 x2 x3 ((d + 1 : Nat) : Int) x5 op (dlen d) hB (fun i h h0 h1 => by rw [wrap_pred (show d < 9223372036854775807 by omega)]; exact ih i h (by omega) h0 h1) n [] i h M hn3 hM.symm (by simp; omega) h0 h1
        refine ⟨r, i', h', Ev.step (fun k => by rw [spec_l2Draw.j5]) ?_, a, by rw [dlen]; simp at b; omega, p, q⟩
        simp only [specTakesOf_eq, Option.bind_some, hn]
        exact e
      have hj4 : ∀ (op : Int) (b : Bool) (i h : Int), 2 ≤ op → op ≤ 17 → 0 ≤ i → i ≤ (s.length : Int) → ∃ r i' h', Ev (fun k => spec_l2Draw.j4 k x1 x2 x3 ((d + 1 : Nat) : Int) x5 op b s i h) (r, i', h') ∧ 1 ≤ r.length ∧ r.length ≤ dlen (d + 1) ∧ 0 ≤ i' ∧ i' ≤ (s.length : Int) := by
        intro op b i h o0 o1 h0 h1
        by_cases c : b = true
        · obtain ⟨r, i', h', e, z⟩ := hj5 17 i h (by omega) (by omega) h0 h1
          refine ⟨r, i', h', Ev.step (fun k => by rw [spec_l2Draw.j4]) ?_, z⟩
          simp only [if_pos c]
          exact e
        · obtain ⟨r, i', h', e, z⟩ := hj5 op i h o0 o1 h0 h1
          refine ⟨r, i', h', Ev.step (fun k => by rw [spec_l2Draw.j4]) ?_, z⟩
          simp only [if_neg c]
          exact e
      have hj3 : ∀ (op i h : Int), 2 ≤ op → op ≤ 17 → 0 ≤ i → i ≤ (s.length : Int) → ∃ r i' h', Ev (fun k => spec_l2Draw.j3 k x1 x2 x3 ((d + 1 : Nat) : Int) x5 op s i h) (r, i', h') ∧ 1 ≤ r.length ∧ r.length ≤ dlen (d + 1) ∧ 0 ≤ i' ∧ i' ≤ (s.length : Int) := by
        intro op i h o0 o1 h0 h1
        by_cases c : x5 = true
        · obtain ⟨b, i2, g2, e2, p2, q2⟩ := l1Once_ex s hs i h 8 h0 h1
          obtain ⟨r, i', h', e, z⟩ := hj4 op b i2 g2 o0 o1 p2 q2
          refine ⟨r, i', h', Ev.step (fun k => by rw [spec_l2Draw.j3]) ?_, z⟩
          simp only [if_pos c, e2, Option.bind_some]
          exact e
        · obtain ⟨r, i', h', e, z⟩ := hj4 op false i h o0 o1 h0 h1
          refine ⟨r, i', h', Ev.step (fun k => by rw [spec_l2Draw.j3]) ?_, z⟩
          simp only [if_neg c]
          exact e
      have hj2 : ∀ (op : Int) (b : Bool) (i h : Int), 2 ≤ op → op ≤ 17 → 0 ≤ i → i ≤ (s.length : Int) → ∃ r i' h', Ev (fun k => spec_l2Draw.j2 k x1 x2 x3 ((d + 1 : Nat) : Int) x5 op b s i h) (r, i', h') ∧ 1 ≤ r.length ∧ r.length ≤ dlen (d + 1) ∧ 0 ≤ i' ∧ i' ≤ (s.length : Int) := by
        intro op b i h o0 o1 h0 h1
        by_cases c : b = true
        · obtain ⟨r, i', h', e, z⟩ := hj3 2 i h (by omega) (by omega) h0 h1
          refine ⟨r, i', h', Ev.step (fun k => by rw [spec_l2Draw.j2]) ?_, z⟩
          simp only [if_pos c]
          exact e
        · obtain ⟨r, i', h', e, z⟩ := hj3 op i h o0 o1 h0 h1
          refine ⟨r, i', h', Ev.step (fun k => by rw [spec_l2Draw.j2]) ?_, z⟩
          simp only [if_neg c]
          exact e
      rw [Bool.not_eq_true] at c; subst c
      obtain ⟨op, i2, g2, e2, o0, o1, p2, q2⟩ := l1From_ex s hs i1 g1 3 16 p1 q1 (by omega) (by omega)
      by_cases ca : x2 > 0
      · obtain ⟨b, i3, g3, e3, p3, q3⟩ := l1Once_ex s hs i2 g2 6 p2 q2
        obtain ⟨r, i', h', e, z⟩ := hj2 op b i3 g3 (by omega) (by omega) p3 q3
        refine ⟨r, i', h', Ev.step (fun k => by rw [spec_l2Draw.f]) ?_, z⟩
        simp only [if_neg (show ¬ ((d + 1 : Nat) : Int) ≤ 0 by omega), e1, Option.bind_some]
        refine Ev.step (fun k => by rw [spec_l2Draw.j0]) ?_
        simp only [Bool.false_eq_true, if_false, e2, e3, Option.bind_some, if_pos ca]
        exact e
      · obtain ⟨r, i', h', e, z⟩ := hj2 op false i2 g2 (by omega) (by omega) p2 q2
        refine ⟨r, i', h', Ev.step (fun k => by rw [spec_l2Draw.f]) ?_, z⟩
        simp only [if_neg (show ¬ ((d + 1 : Nat) : Int) ≤ 0 by omega), e1, Option.bind_some]
        refine Ev.step (fun k => by rw [spec_l2Draw.j0]) ?_
        simp only [Bool.false_eq_true, if_false, e2, Option.bind_some, if_neg ca]
        exact e

theorem l2DrawAny_l0 (s : List Int) (hs : s.length ≤ 4611686018427387904) (d : Nat) : ∀ (x : List S40) (i h : Int), x.length + d = 3001 → 0 ≤ i → i ≤ (s.length : Int) → ∃ r i' h', Ev (fun k => spec_l2DrawAny.l0 k x s i h) (r, i', h') ∧ r.length ≤ 3001 ∧ 0 ≤ i' ∧ i' ≤ (s.length : Int) := by
  induction d with
  | zero =>
    intro x i h hd h0 h1
    obtain ⟨v, i1, g1, e1, v0, v1, _, p1, q1⟩ := l1Below_ex s hs i h 2 h0 h1
    have v2 := v1 (by omega)
    refine ⟨x, i1, g1, Ev.step (fun k => by rw [spec_l2DrawAny.l0]) ?_, by omega, p1, q1⟩
    simp only [e1, Option.bind_some, wrap_id (show -9223372036854775808 ≤ 3000 + v by omega) (show 3000 + v ≤ 9223372036854775807 by omega), if_neg (show ¬ (x.length : Int) < 3000 + v by omega)]
    exact Ev.now _
  | succ d ih =>
    intro x i h hd h0 h1
    obtain ⟨v, i1, g1, e1, v0, v1, _, p1, q1⟩ := l1Below_ex s hs i h 2 h0 h1
    have v2 := v1 (by omega)
    by_cases c : (x.length : Int) < 3000 + v
    · obtain ⟨r, i', h', er, hl, p, q⟩ := ih (x ++ [⟨3, 0⟩]) i1 g1 (by simp; omega) p1 q1
      refine ⟨r, i', h', Ev.step (fun k => by rw [spec_l2DrawAny.l0]) ?_, hl, p, q⟩
      simp only [e1, Option.bind_some, wrap_id (show -9223372036854775808 ≤ 3000 + v by omega) (show 3000 + v ≤ 9223372036854775807 by omega), if_pos c, if_pos (show x.length < 8796093022208 by omega)]
      exact er
    · refine ⟨x, i1, g1, Ev.step (fun k => by rw [spec_l2DrawAny.l0]) ?_, by omega, p1, q1⟩
      simp only [e1, Option.bind_some, wrap_id (show -9223372036854775808 ≤ 3000 + v by omega) (show 3000 + v ≤ 9223372036854775807 by omega), if_neg c]
      exact Ev.now _
theorem l2DrawAny_j0 (s : List Int) (hs : s.length ≤ 4611686018427387904) (x : List S40) (hx : x.length ≤ 3001) (i h : Int) (h0 : 0 ≤ i) (h1 : i ≤ (s.length : Int)) : ∃ r i' h', Ev (fun k => spec_l2DrawAny.j0 k x s i h) (r, i', h') ∧ r.length ≤ 3001 ∧ 0 ≤ i' ∧ i' ≤ (s.length : Int) := by
  obtain ⟨b, i1, g1, e1, p1, q1⟩ := l1Once_ex s hs i h 60 h0 h1
  by_cases c : b = true
  · obtain ⟨r, i', h', e, hl, p, q⟩ := l2DrawAny_l0 s hs 3000 [⟨0, 0⟩] i1 g1 (by simp) p1 q1
    refine ⟨r, i', h', Ev.step (fun k => by rw [spec_l2DrawAny.j0]) ?_, hl, p, q⟩
    simp only [e1, Option.bind_some, if_pos c]
    exact e
  · refine ⟨x, i1, g1, Ev.step (fun k => by rw [spec_l2DrawAny.j0]) ?_, hx, p1, q1⟩
    simp only [e1, Option.bind_some, if_neg c]
    exact Ev.now _
theorem l2DrawAny_ex (s : List Int) (hs : s.length ≤ 4611686018427387904) (i h : Int) (h0 : 0 ≤ i) (h1 : i ≤ (s.length : Int)) : ∃ r i' h', Ev (fun k => spec_l2DrawAny.f k s i h) (r, i', h') ∧ r.length ≤ 3001 ∧ 0 ≤ i' ∧ i' ≤ (s.length : Int) := by
  obtain ⟨v, i1, g1, e1, v0, v1, _, p1, q1⟩ := l1Below_ex s hs i h 4 h0 h1
  have v2 := v1 (by omega)
  obtain ⟨n, rfl⟩ := Int.eq_ofNat_of_zero_le v0
  have hw : wrap64 (1 + (n : Int)) = ((n + 1 : Nat) : Int) := by rw [wrap_id (by omega) (by omega)]; omega
  obtain ⟨x, i2, g2, e2, x0, x1, p2, q2⟩ := l2Draw_ex s hs 4 2 9 true (n + 1) i1 g1 (by omega) p1 q1
  have hx : x.length ≤ 121 := Nat.le_trans x1 (dlen_le (by omega))
  obtain ⟨b, i3, g3, e3, p3, q3⟩ := l1Once_ex s hs i2 g2 6 p2 q2
  have key : ∃ r i' h', Ev (fun k => (if b = true then ((spec_l1Below.f s i3 g3 (x.length : Int)).bind fun bt248 => ((spec_l1Below.f s bt248.2.1 bt248.2.2 4).bind fun bt251 => (if bt251.1 = 0 then ((spec_l1From.f s bt251.2.1 bt251.2.2 (-1) 18).bind fun bt254 => (if 0 ≤ bt248.1 then (if bt248.1 < (x.length : Int) then (spec_l2DrawAny.j0 k (x.set (bt248.1 : Int).toNat (⟨bt254.1, (rd_T40 x bt248.1).f1⟩ : S40)) s bt254.2.1 bt254.2.2) else (none)) else (none))) else (if bt251.1 = 1 then ((spec_l1Num.f s bt251.2.1 bt251.2.2 255).bind fun bt258 => (if 0 ≤ bt248.1 then (if bt248.1 < (x.length : Int) then (spec_l2DrawAny.j0 k (x.set (bt248.1 : Int).toNat (⟨(rd_T40 x bt248.1).f0, bt258.1⟩ : S40)) s bt258.2.1 bt258.2.2) else (none)) else (none))) else (if bt251.1 = 2 then ((spec_l1From.f s bt251.2.1 bt251.2.2 0 17).bind fun bt262 => (if x.length < 8796093022208 then (spec_l2DrawAny.j0 k (x ++ [(⟨bt262.1, 0⟩ : S40)]) s bt262.2.1 bt262.2.2) else (none))) else (if bt251.1 = 3 then (if 1 ≤ (x.length : Int) then (spec_l2DrawAny.j0 k (x.drop (1 : Int).toNat) s bt251.2.1 bt251.2.2) else (none)) else (spec_l2DrawAny.j0 k x s bt251.2.1 bt251.2.2))))))) else (spec_l2DrawAny.j0 k x s i3 g3))) (r, i', h') ∧ r.length ≤ 3001 ∧ 0 ≤ i' ∧ i' ≤ (s.length : Int) := by
    by_cases c : b = true
    · obtain ⟨j, i4, g4, e4, j0, j1, _, p4, q4⟩ := l1Below_ex s hs i3 g3 (x.length : Int) p3 q3
      have j2 := j1 (by omega)
      obtain ⟨u, i5, g5, e5, u0, u1, _, p5, q5⟩ := l1Below_ex s hs i4 g4 4 p4 q4
      have u2 := u1 (by omega)
      simp only [if_pos c, e4, e5, Option.bind_some, if_pos j0, if_pos j2]
      have hu : u = 0 ∨ u = 1 ∨ u = 2 ∨ u = 3 := by omega
      rcases hu with rfl | rfl | rfl | rfl
      · obtain ⟨o, i6, g6, e6, _, _, p6, q6⟩ := l1From_ex s hs i5 g5 (-1) 18 p5 q5 (by omega) (by omega)
        simp only [if_true, e6, Option.bind_some]
        exact l2DrawAny_j0 s hs _ (by rw [List.length_set]; omega) i6 g6 p6 q6
      · obtain ⟨o, i6, g6, e6, p6, q6⟩ := l1Num_ex s hs i5 g5 255 p5 q5
        simp only [if_neg (show ¬ (1 : Int) = 0 by omega), if_true, e6, Option.bind_some]
        exact l2DrawAny_j0 s hs _ (by rw [List.length_set]; omega) i6 g6 p6 q6
      · obtain ⟨o, i6, g6, e6, _, _, p6, q6⟩ := l1From_ex s hs i5 g5 0 17 p5 q5 (by omega) (by omega)
        simp only [if_neg (show ¬ (2 : Int) = 0 by omega), if_neg (show ¬ (2 : Int) = 1 by omega), if_true, e6, Option.bind_some, if_pos (show x.length < 8796093022208 by omega)]
        exact l2DrawAny_j0 s hs _ (by rw [List.length_append]; simp; omega) i6 g6 p6 q6
      · simp only [if_neg (show ¬ (3 : Int) = 0 by omega), if_neg (show ¬ (3 : Int) = 1 by omega), if_neg (show ¬ (3 : Int) = 2 by omega), if_true, if_pos (show 1 ≤ (x.length : Int) by omega)]
        exact l2DrawAny_j0 s hs _ (by rw [List.length_drop]; omega) i5 g5 p5 q5
    · simp only [if_neg c]
      exact l2DrawAny_j0 s hs _ (by omega) i3 g3 p3 q3
  obtain ⟨r, i', h', e, z⟩ := key
  refine ⟨r, i', h', ?_, z⟩
  simp only [spec_l2DrawAny.f, e1, Option.bind_some, hw]
  refine Ev.bind e2 ?_
  simp only [e3, Option.bind_some]
  exact e

def firstR (x : List S40) (a : Int) : Int := if expOk (x.map tmI) = true ∧ 0 ≤ a ∧ a < (x.length : Int) then ((bk ((x.take (a.toNat + 1)).map tmI).reverse 1).getD 0 : Nat) else -1
theorem implFirstOf_ev (x : List S40) (a : Int) : Ev (fun k => impl_FirstOf.f k x a) (firstR x a) := by
  simp only [impl_FirstOf.f]
  refine Ev.bind (implExpOk_ev x) ?_
  by_cases h : expOk (x.map tmI) = true
  · have hp := expOk_pos h
    simp only [if_pos h]
    by_cases c0 : a < 0
    · simp only [if_pos c0]
      exact (Ev.now _).cast (by rw [firstR, if_neg (fun g => by omega)])
    by_cases c1 : a ≥ (x.length : Int)
    · simp only [if_neg c0, if_pos c1]
      exact (Ev.now _).cast (by rw [firstR, if_neg (fun g => by omega)])
    simp only [if_neg c0, if_neg c1]
    obtain ⟨i, rfl⟩ := Int.eq_ofNat_of_zero_le (show 0 ≤ a by omega)
    obtain ⟨r, hr⟩ := first_ex x h (show i < x.length by omega)
    refine Ev.bind (beginOf_ev x (expOk_len h) (by omega) hr) ?_
    exact (Ev.now _).cast (by rw [firstR, if_pos ⟨h, by omega, by omega⟩, Int.toNat_natCast, hr]; rfl)
  · simp only [if_neg h]
    exact (Ev.now _).cast (by rw [firstR, if_neg (fun g => h g.1)])

def Want_FnParts : Prop := ∀ (l0 : List (Int)), (l0.length ≤ 9223372036854775807 ∧ ∀ u1 ∈ l0, (Lit.int .u8 u1).wf = true) → ∃ k, laws_FnParts.f k l0 = some true
theorem drawParts_ex (s : List Int) (hs : s.length ≤ 1048576) : ∃ x : List S40, Ev (fun k => spec_DrawPartsOf.f k s) x ∧ x.length ≤ 3001 := by
  obtain ⟨h, e⟩ := l1New_ex s (by omega)
  obtain ⟨x, i1, g1, e1, hl, p1, q1⟩ := l2DrawAny_ex s (by omega) 0 h (by omega) (by omega)
  refine ⟨x, ?_, hl⟩
  simp only [spec_DrawPartsOf.f]
  refine Ev.bind e ?_
  refine Ev.bind e1 ?_
  exact Ev.now _
theorem firstR_seg {p s r : List S40} (h : expOk ((p ++ s ++ r).map tmI) = true) (hs : IsTr s) : firstR (p ++ s ++ r) (((p.length + s.length : Nat) : Int) - 1) = (p.length : Int) := by
  have hp := hs.pos
  have hb := seg_bk (p := p) (r := r) hs
  rw [firstR, if_pos ⟨h, by omega, by rw [List.length_append, List.length_append]; omega⟩, show (((p.length + s.length : Nat) : Int) - 1).toNat + 1 = p.length + s.length by omega, hb]
  rfl
theorem fnParts_l (ks : List (List S40)) (t : S40) (h : expOk ((ks.flatten ++ [t]).map tmI) = true) (hk : ∀ s ∈ ks, IsTr s) (ht : (ks.length : Int) = tks t.f0) (h3 : ks.length ≤ 3) (hx : IsTr (ks.flatten ++ [t])) (d : Nat) : ∀ (i : Nat), i + d = ks.length → Ev (fun k => laws_FnParts.l0 k (ks.flatten ++ [t]) ks (ks.take i).flatten (i : Int)) true := by
  have hl := expOk_len h
  have hlen : (ks.flatten ++ [t]).length = ks.flatten.length + 1 := by simp
  induction d with
  | zero =>
    intro i hi
    obtain rfl : i = ks.length := by omega
    have hw : wrap64 (((ks.flatten ++ [t]).length : Int) - 1) = ((ks.flatten.length : Nat) : Int) := by rw [hlen]; exact wrap_pred (by omega)
    refine Ev.step (fun k => by rw [laws_FnParts.l0]) ?_
    rw [List.take_length]
    simp only [if_neg (show ¬ (ks.length : Int) < (ks.length : Int) by omega), hw, if_pos (show 0 ≤ ((ks.flatten.length : Nat) : Int) by omega), if_pos (show ((ks.flatten.length : Nat) : Int) < ((ks.flatten ++ [t]).length : Int) by omega), last_rd]
    refine Ev.bind (implTakesOf_ev _) ?_
    simp only [← ht, if_true, if_pos (show ks.flatten.length < 8796093022208 by omega)]
    rw [show (⟨t.f0, t.f1⟩ : S40) = t from rfl]
    refine Ev.bind (likeTerms_ev _ (by omega)) ?_
    simp only [if_true]
    refine Ev.bind (implFirstOf_ev _ _) ?_
    have hf := firstR_seg (p := []) (r := []) (s := ks.flatten ++ [t]) (by simpa using h) hx
    simp only [List.nil_append, List.append_nil, List.length_nil, Nat.zero_add] at hf
    rw [show ((ks.flatten.length : Nat) : Int) = (((ks.flatten ++ [t]).length : Nat) : Int) - 1 by omega, hf]
    exact Ev.now _
  | succ d ih =>
    intro i hi
    have hil : i < ks.length := by omega
    have hs := hk ks[i] (List.getElem_mem _)
    have hp := hs.pos
    have e2 := ks_take ks i hil
    have e3 : ks.flatten ++ [t] = (ks.take i).flatten ++ ks[i] ++ ((ks.drop (i + 1)).flatten ++ [t]) := by rw [ks_split ks i hil]; simp
    have hle : (ks.take i).flatten.length + ks[i].length ≤ (ks.flatten ++ [t]).length := by rw [e3]; simp
    have hrd : rd_L2 ks (i : Int) = ks[i] := by
      simp only [rd_L2, Int.toNat_natCast, List.getD_eq_getElem?_getD, List.getElem?_eq_getElem hil, Option.getD_some]
    have hf := firstR_seg (p := (ks.take i).flatten) (r := (ks.drop (i + 1)).flatten ++ [t]) (s := ks[i]) (by rw [← e3]; exact h) hs
    rw [← e3] at hf
    have hN : ((ks.take i).flatten ++ ks[i]).length = (ks.take i).flatten.length + ks[i].length := List.length_append
    refine Ev.step (fun k => by rw [laws_FnParts.l0]) ?_
    simp only [if_pos (show (i : Int) < (ks.length : Int) by omega), if_pos (show 0 ≤ (i : Int) by omega), hrd, if_pos (show (ks.take i).flatten.length + ks[i].length < 8796093022208 by omega), Option.bind_some]
    refine Ev.bind (implExpOk_ev _) ?_
    simp only [if_pos (hs.ok (by omega))]
    refine Ev.bind (implFirstOf_ev _ _) ?_
    rw [hN, wrap_id (by omega) (by omega), hf]
    simp only [if_true, wrap_succ (show i < 9223372036854775807 by omega)]
    rw [← e2]
    exact ih (i + 1) (by omega)
theorem FnParts : Want_FnParts := by
  intro s hq
  refine Ev.rounds ?_
  simp only [laws_FnParts.f, laws_big.f, Option.bind_some]
  by_cases hb : (s.length : Int) > 4096
  · simp only [decide_eq_true hb, if_true]; exact Ev.now _
  simp only [decide_eq_false hb, Bool.false_eq_true, if_false]
  obtain ⟨x, ex, hl⟩ := drawParts_ex s (by omega)
  refine Ev.bind ex ?_
  by_cases h : expOk (x.map tmI) = true
  · obtain ⟨ks, t, rfl, hk, ht, h3, hx⟩ := parts_ex h
    refine Ev.bind (implParts_ok ks t h hk ht h3) ?_
    refine Ev.bind (specExpOk_ev _ (by omega)) ?_
    simp only [if_pos h]
    exact fnParts_l ks t h hk ht h3 hx ks.length 0 (by omega)
  · refine Ev.bind (implParts_no x h) ?_
    refine Ev.bind (specExpOk_ev _ (by omega)) ?_
    simp only [if_neg h, List.length_nil, if_pos (show ((0 : Nat) : Int) = 0 by omega)]
    refine Ev.bind (implExpOk_ev _) ?_
    simp only [if_neg h]
    refine Ev.bind (implFirstOf_ev _ _) ?_
    rw [firstR, if_neg (fun g => h g.1)]
    exact Ev.now _
end Go.Proofs.Ytlaliacfonfflaa.Pure
