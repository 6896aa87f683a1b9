/- NatOk of the program and of the reference answer alike, for every list of whole numbers, and the argument is left as it was; no condition. -/
import Derived.Test.YtfpobacomphnbaaPFnExactNatOkx1
import Derived.Test.YtfpobacomphnbaaNt
set_option linter.unusedVariables false
set_option linter.unusedSimpArgs false
namespace Go.Proofs.Ytfpobacomphnbaa.Pure
open Go.RowKit Go.Proofs.Ytfpobacomphnbaa.PFnExactNatOk Go.Proofs.YtfpobacomphnbaaW.PrintWords Go.Proofs.YtfpobacomphnbaaW.PrintLast Go.Proofs.YtfpobacomphnbaaW.PrintMore Go.Proofs.Ytfpobacomphnbaa.Bs

theorem l1In_eq (a b c : Int) : spec_l1In.f a b c = some (decide (b ≤ a) && decide (a ≤ c)) := by
  unfold spec_l1In.f
  by_cases h : a ≥ b
  · rw [if_pos h]; simp [show b ≤ a from h]
  · rw [if_neg h]; simp [show ¬ b ≤ a from h]
theorem specNatOk_l (x : List Int) (hx : x.length ≤ 4611686018427387904) (d : Nat) : ∀ i : Nat, i + d = x.length → Ev (fun k => spec_NatOk.l0 k x (i : Int)) (((x.drop i).all fun y => decide (0 ≤ y) && decide (y ≤ 9999)) && decide (x.length ≤ 100) && (x.isEmpty || rd x ((x.length : Int) - 1) != 0)) := by
  induction d with
  | zero =>
    intro i hi
    refine Ev.step (fun k => by rw [spec_NatOk.l0]) ?_
    simp only [if_neg (show ¬ (i : Int) < (x.length : Int) by omega)]
    rw [List.drop_of_length_le (show x.length ≤ i by omega)]
    by_cases h1 : x.length ≤ 100
    · simp only [if_pos (show (x.length : Int) ≤ 100 by omega)]
      by_cases h2 : x.length = 0
      · simp only [if_pos (show (x.length : Int) = 0 by omega)]
        exact (Ev.now true).cast (by simp [List.length_eq_zero_iff.1 h2])
      · have hw : wrap64 ((x.length : Int) - 1) = (x.length : Int) - 1 := wrap_id (by omega) (by omega)
        simp only [if_neg (show ¬ (x.length : Int) = 0 by omega), hw, if_pos (show 0 ≤ (x.length : Int) - 1 by omega), if_pos (show (x.length : Int) - 1 < (x.length : Int) by omega)]
        have hne : x.isEmpty = false := by cases x; simp at h2; rfl
        exact (Ev.now _).cast (by simp [h1, hne])
    · simp only [if_neg (show ¬ (x.length : Int) ≤ 100 by omega)]
      exact (Ev.now false).cast (by simp [h1])
  | succ d ih =>
    intro i hi
    refine Ev.step (fun k => by rw [spec_NatOk.l0]) ?_
    simp only [if_pos (show (i : Int) < (x.length : Int) by omega), if_pos (show 0 ≤ (i : Int) by omega), l1In_eq, Option.bind_some, wrap_succ (show i < 9223372036854775807 by omega)]
    rw [drop_rd x i (by omega), List.all_cons]
    by_cases h : (decide (0 ≤ rd x (i : Int)) && decide (rd x (i : Int) ≤ 9999)) = true
    · simp only [if_pos h]
      exact (ih (i + 1) (by omega)).cast (by rw [h]; simp)
    · simp only [if_neg h]
      exact (Ev.now false).cast (by rw [Bool.not_eq_true] at h; rw [h]; simp)
theorem specNatOk_ev (x : List Int) (hx : x.length ≤ 4611686018427387904) : Ev (fun k => spec_NatOk.f k x) (nok x) := by
  simp only [spec_NatOk.f]
  exact (specNatOk_l x hx x.length 0 (by omega)).cast (by simp [nok])

theorem implNatOk_l (x : List Int) (hx : x.length ≤ 100) (d : Nat) : ∀ i : Nat, i + d = x.length → Ev (fun k => impl_NatOk.l0 k x x (x.length : Int) (i : Int)) (((x.drop i).all fun y => decide (0 ≤ y) && decide (y ≤ 9999)) && (x.isEmpty || rd x ((x.length : Int) - 1) != 0)) := by
  induction d with
  | zero =>
    intro i hi
    refine Ev.step (fun k => by rw [impl_NatOk.l0]) ?_
    simp only [if_neg (show ¬ (i : Int) < (x.length : Int) by omega)]
    rw [List.drop_of_length_le (show x.length ≤ i by omega)]
    by_cases h2 : x.length = 0
    · simp only [if_pos (show (x.length : Int) = 0 by omega)]
      exact (Ev.now true).cast (by simp [List.length_eq_zero_iff.1 h2])
    · have hw : wrap64 ((x.length : Int) - 1) = (x.length : Int) - 1 := wrap_id (by omega) (by omega)
      simp only [if_neg (show ¬ (x.length : Int) = 0 by omega), hw, if_pos (show 0 ≤ (x.length : Int) - 1 by omega), if_pos (show (x.length : Int) - 1 < (x.length : Int) by omega)]
      have hne : x.isEmpty = false := by cases x; simp at h2; rfl
      exact (Ev.now _).cast (by simp [hne])
  | succ d ih =>
    intro i hi
    refine Ev.step (fun k => by rw [impl_NatOk.l0]) ?_
    simp only [if_pos (show (i : Int) < (x.length : Int) by omega), if_pos (show 0 ≤ (i : Int) by omega), wrap_succ (show i < 9223372036854775807 by omega)]
    rw [drop_rd x i (by omega), List.all_cons]
    by_cases h : rd x (i : Int) < 0
    · simp only [if_pos h]
      exact (Ev.now false).cast (by rw [decide_eq_false (show ¬ 0 ≤ rd x (i : Int) by omega)]; simp)
    · simp only [if_neg h]
      by_cases h' : rd x (i : Int) ≥ 10000
      · simp only [if_pos h']
        exact (Ev.now false).cast (by rw [decide_eq_false (show ¬ rd x (i : Int) ≤ 9999 by omega)]; simp)
      · simp only [if_neg h']
        exact (ih (i + 1) (by omega)).cast (by rw [decide_eq_true (show 0 ≤ rd x (i : Int) by omega), decide_eq_true (show rd x (i : Int) ≤ 9999 by omega)]; simp)
theorem implNatOk_ev (x : List Int) : Ev (fun k => impl_NatOk.f k x) (nok x) := by
  simp only [impl_NatOk.f]
  by_cases h : x.length ≤ 100
  · simp only [if_neg (show ¬ (x.length : Int) > 100 by omega)]
    exact (implNatOk_l x h x.length 0 (by omega)).cast (by simp [nok, h])
  · simp only [if_pos (show (x.length : Int) > 100 by omega)]
    exact (Ev.now false).cast (by simp [nok, h])

theorem toInt64S_l (l : List Int) (hl : l.length ≤ 1048576) (d : Nat) : ∀ (i : Nat) (x : List Int), i + d = l.length → x.length = l.length → (∀ j, j < i → x[j]? = l[j]?) → Ev (fun k => laws_toInt64S.l0 k l x (i : Int)) l := by
  induction d with
  | zero =>
    intro i x hi hx ht
    refine Ev.step (fun k => by rw [laws_toInt64S.l0]) ?_
    simp only [if_neg (show ¬ (i : Int) < (l.length : Int) by omega)]
    obtain rfl : x = l := ext_at hx (fun j hj => ht j (by omega))
    exact Ev.now _
  | succ d ih =>
    intro i x hi hx ht
    refine Ev.step (fun k => by rw [laws_toInt64S.l0]) ?_
    simp only [if_pos (show (i : Int) < (l.length : Int) by omega), if_pos (show 0 ≤ (i : Int) by omega), if_pos (show (i : Int) < (x.length : Int) by omega), wrap_succ (show i < 9223372036854775807 by omega), Int.toNat_natCast]
    refine ih (i + 1) _ (by omega) (by simpa using hx) (fun j hj => ?_)
    rw [List.getElem?_set]
    by_cases e : i = j
    · subst e
      rw [if_pos rfl, if_pos (by omega), rd_lt l i (by omega), List.getElem?_eq_getElem (by omega)]
    · rw [if_neg e]; exact ht j (by omega)
theorem toInt64S_ev (l : List Int) (hl : l.length ≤ 1048576) : Ev (fun k => laws_toInt64S.f k l) l := by
  simp only [laws_toInt64S.f, if_pos (show 0 ≤ (l.length : Int) by omega), Int.toNat_natCast, if_pos (show l.length ≤ 35184372088832 by omega)]
  exact toInt64S_l l hl l.length 0 _ (by omega) (by simp) (fun j hj => by omega)


theorem eqInt64S_l (a b : List Int) (hl : a.length = b.length) (ha : a.length ≤ 9223372036854775807) (d : Nat) : ∀ (i : Nat), i + d = a.length → Ev (fun k => laws_eqInt64S.l0 k a b (i : Int)) (decide (a.drop i = b.drop i)) := by
  induction d with
  | zero =>
    intro i hi
    refine Ev.step (fun k => by rw [laws_eqInt64S.l0]) ?_
    simp only [if_neg (show ¬ (i : Int) < (a.length : Int) by omega)]
    rw [List.drop_of_length_le (show a.length ≤ i by omega), List.drop_of_length_le (show b.length ≤ i by omega)]
    simp only [decide_true]
    exact Ev.now _
  | succ d ih =>
    intro i hi
    refine Ev.step (fun k => by rw [laws_eqInt64S.l0]) ?_
    simp only [if_pos (show (i : Int) < (a.length : Int) by omega), if_pos (show 0 ≤ (i : Int) by omega), if_pos (show (i : Int) < (b.length : Int) by omega), wrap_succ (show i < 9223372036854775807 by omega)]
    rw [drop_rd a i (by omega), drop_rd b i (by omega)]
    by_cases e : rd a (i : Int) = rd b (i : Int)
    · simp only [if_pos e]
      exact (ih (i + 1) (by omega)).cast (by simp [e])
    · simp only [if_neg e]
      exact (Ev.now false).cast (by simp [e])
theorem eqInt64S_ev (a b : List Int) (ha : a.length ≤ 9223372036854775807) : Ev (fun k => laws_eqInt64S.f k a b) (decide (a = b)) := by
  simp only [laws_eqInt64S.f]
  by_cases hl : a.length = b.length
  · simp only [if_pos (show (a.length : Int) = (b.length : Int) by omega)]
    exact (eqInt64S_l a b hl ha a.length 0 (by omega)).cast (by simp)
  · simp only [if_neg (show ¬ (a.length : Int) = (b.length : Int) by omega)]
    exact (Ev.now false).cast (by have : a ≠ b := (fun e => hl (by rw [e])); simp [this])

def Want_FnExactNatOk : Prop := ∀ (l0 : List (Int)), (l0.length ≤ 9223372036854775807 ∧ ∀ u1 ∈ l0, (Lit.int .i64 u1).wf = true) → ∃ k, laws_FnExactNatOk.f k l0 = some true
theorem FnExactNatOk : Want_FnExactNatOk := by
  intro a hq
  refine Ev.rounds ?_
  simp only [laws_FnExactNatOk.f]
  by_cases h : (a.length : Int) > 1048576
  · simp only [if_pos h]; exact Ev.now _
  · simp only [if_neg h]
    have hl : a.length ≤ 1048576 := by omega
    refine Ev.bind (toInt64S_ev a hl) ?_
    refine Ev.bind (specNatOk_ev a (by omega)) ?_
    refine Ev.bind (toInt64S_ev a hl) ?_
    refine Ev.bind (implNatOk_ev a) ?_
    simp only [bne_self_eq_false, Bool.false_eq_true, if_false]
    refine Ev.bind (toInt64S_ev a hl) ?_
    refine Ev.bind (eqInt64S_ev a a (by omega)) ?_
    simp only [decide_true, if_true]
    exact Ev.now _
end Go.Proofs.Ytfpobacomphnbaa.Pure
