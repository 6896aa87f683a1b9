/- LikeOutcomes of the program and of the reference answer alike, for all Outcomes, and the arguments are left as they were; no condition. -/
import Derived.Test.YtfpobacomphnbaaPFnExactLikeOutcomesx3
import Derived.Test.YtfpobacomphnbaaBs
set_option linter.unusedVariables false
set_option linter.unusedSimpArgs false
namespace Go.Proofs.Ytfpobacomphnbaa.Pure
open Go.RowKit Go.Proofs.Ytfpobacomphnbaa.PFnExactLikeOutcomes Go.Proofs.YtfpobacomphnbaaW.PrintWords Go.Proofs.YtfpobacomphnbaaW.PrintLast Go.Proofs.YtfpobacomphnbaaW.PrintMore Go.Proofs.Ytfpobacomphnbaa.Bs

theorem specLike_l (a b : List Int) (hl : a.length = b.length) (ha : a.length ≤ 9223372036854775807) (x y z u : Int) (d : Nat) : ∀ (i : Nat), i + d = a.length → Ev (fun k => spec_LikeOutcomes.l0 k (i : Int) a x y b z u) (decide (a.drop i = b.drop i)) := by
  induction d with
  | zero =>
    intro i hi
    refine Ev.step (fun k => by rw [spec_LikeOutcomes.l0]) ?_
    simp only [if_neg (show ¬ (i : Int) < (a.length : Int) by omega)]
    rw [List.drop_of_length_le (show a.length ≤ i by omega), List.drop_of_length_le (show b.length ≤ i by omega)]
    simp only [decide_true]
    exact Ev.now _
  | succ d ih =>
    intro i hi
    refine Ev.step (fun k => by rw [spec_LikeOutcomes.l0]) ?_
    simp only [if_pos (show (i : Int) < (a.length : Int) by omega), if_pos (show 0 ≤ (i : Int) by omega), if_pos (show (i : Int) < (b.length : Int) by omega), wrap_succ (show i < 9223372036854775807 by omega)]
    rw [drop_rd a i (by omega), drop_rd b i (by omega)]
    by_cases e : rd a (i : Int) = rd b (i : Int)
    · simp only [if_pos e]
      exact (ih (i + 1) (by omega)).cast (by simp [e])
    · simp only [if_neg e]
      exact (Ev.now false).cast (by simp [e])
def likeR (a : List Int) (x y : Int) (b : List Int) (z u : Int) : Bool := decide (a = b) && decide (x = z) && decide (y = u)
theorem likeR_len {a b : List Int} (h : a.length ≠ b.length) (x y z u : Int) : likeR a x y b z u = false := by
  have : a ≠ b := fun e => h (by rw [e])
  simp [likeR, this]
theorem specLike_ev (a b : List Int) (ha : a.length ≤ 9223372036854775807) (x y z u : Int) : Ev (fun k => spec_LikeOutcomes.f k a x y b z u) (likeR a x y b z u) := by
  simp only [spec_LikeOutcomes.f]
  have hj : Ev (fun k => spec_LikeOutcomes.j0 k true a x y b z u) false := by
    refine Ev.step (fun k => by rw [spec_LikeOutcomes.j0]) ?_
    simp only [if_true]; exact Ev.now _
  by_cases hl : a.length = b.length
  · simp only [if_pos (show (a.length : Int) = (b.length : Int) by omega)]
    by_cases hx : x = z
    · simp only [if_pos hx]
      refine Ev.step (fun k => by rw [spec_LikeOutcomes.j0]) ?_
      by_cases hy : y = u
      · simp only [hy, bne_self_eq_false, Bool.false_eq_true, if_false]
        exact (specLike_l a b hl ha x u z u a.length 0 (by omega)).cast (by simp [likeR, hx])
      · simp only [bne_iff_ne, ne_eq, hy, not_false_eq_true, if_true]
        exact (Ev.now _).cast (by simp [likeR, hy])
    · simp only [if_neg hx]
      exact hj.cast (by simp [likeR, hx])
  · simp only [if_neg (show ¬ (a.length : Int) = (b.length : Int) by omega)]
    exact hj.cast (likeR_len hl x y z u).symm
theorem implLike_l (a b : List Int) (hl : a.length = b.length) (ha : a.length ≤ 9223372036854775807) (z u : Int) (d : Nat) : ∀ (i : Nat), i + d = a.length → Ev (fun k => impl_LikeOutcomes.l0 k a (a.length : Int) (i : Int) b z u) (decide (a.drop i = b.drop i)) := by
  induction d with
  | zero =>
    intro i hi
    refine Ev.step (fun k => by rw [impl_LikeOutcomes.l0]) ?_
    simp only [if_neg (show ¬ (i : Int) < (a.length : Int) by omega)]
    rw [List.drop_of_length_le (show a.length ≤ i by omega), List.drop_of_length_le (show b.length ≤ i by omega)]
    simp only [decide_true]
    exact Ev.now _
  | succ d ih =>
    intro i hi
    refine Ev.step (fun k => by rw [impl_LikeOutcomes.l0]) ?_
    simp only [if_pos (show (i : Int) < (a.length : Int) by omega), if_pos (show 0 ≤ (i : Int) by omega), if_pos (show (i : Int) < (b.length : Int) by omega), wrap_succ (show i < 9223372036854775807 by omega)]
    rw [drop_rd a i (by omega), drop_rd b i (by omega)]
    by_cases e : rd a (i : Int) = rd b (i : Int)
    · simp only [if_pos e]
      exact (ih (i + 1) (by omega)).cast (by simp [e])
    · simp only [if_neg e]
      exact (Ev.now false).cast (by simp [e])
theorem implLike_ev (a b : List Int) (ha : a.length ≤ 9223372036854775807) (x y z u : Int) : Ev (fun k => impl_LikeOutcomes.f k a x y b z u) (likeR a x y b z u) := by
  simp only [impl_LikeOutcomes.f]
  have hj : Ev (fun k => impl_LikeOutcomes.j0 k true a x y b z u) false := by
    refine Ev.step (fun k => by rw [impl_LikeOutcomes.j0]) ?_
    simp only [if_true]; exact Ev.now _
  by_cases hl : a.length = b.length
  · simp only [if_pos (show (a.length : Int) = (b.length : Int) by omega)]
    by_cases hx : x = z
    · simp only [if_pos hx]
      refine Ev.step (fun k => by rw [impl_LikeOutcomes.j0]) ?_
      by_cases hy : y = u
      · simp only [hy, bne_self_eq_false, Bool.false_eq_true, if_false]
        exact (implLike_l a b hl ha z u a.length 0 (by omega)).cast (by simp [likeR, hx])
      · simp only [bne_iff_ne, ne_eq, hy, not_false_eq_true, if_true]
        exact (Ev.now _).cast (by simp [likeR, hy])
    · simp only [if_neg hx]
      exact hj.cast (by simp [likeR, hx])
  · simp only [if_neg (show ¬ (a.length : Int) = (b.length : Int) by omega)]
    exact hj.cast (likeR_len hl x y z u).symm

theorem toInt64S_l (l : List Int) (hl : l.length ≤ 1048576) (d : Nat) : ∀ (i : Nat) (x : List Int), i + d = l.length → x.length = l.length → (∀ j, j < i → x[j]? = l[j]?) → Ev (fun k => laws_toInt64S.l0 k l x (i : Int)) l := by
  induction d with
  | zero =>
    intro i x hi hx ht
    refine Ev.step (fun k => by rw [laws_toInt64S.l0]) ?_
    simp only [if_neg (show ¬ (i : Int) < (l.length : Int) by omega)]
    obtain rfl : x = l := ext_at hx (fun j hj => ht j (by omega))
    exact Ev.now _
  | succ d ih =>
    intro i x hi hx ht
    refine Ev.step (fun k => by rw [laws_toInt64S.l0]) ?_
    simp only [if_pos (show (i : Int) < (l.length : Int) by omega), if_pos (show 0 ≤ (i : Int) by omega), if_pos (show (i : Int) < (x.length : Int) by omega), wrap_succ (show i < 9223372036854775807 by omega), Int.toNat_natCast]
    refine ih (i + 1) _ (by omega) (by simpa using hx) (fun j hj => ?_)
    rw [List.getElem?_set]
    by_cases e : i = j
    · subst e
      rw [if_pos rfl, if_pos (by omega), rd_lt l i (by omega), List.getElem?_eq_getElem (by omega)]
    · rw [if_neg e]; exact ht j (by omega)
theorem toInt64S_ev (l : List Int) (hl : l.length ≤ 1048576) : Ev (fun k => laws_toInt64S.f k l) l := by
  simp only [laws_toInt64S.f, if_pos (show 0 ≤ (l.length : Int) by omega), Int.toNat_natCast, if_pos (show l.length ≤ 35184372088832 by omega)]
  exact toInt64S_l l hl l.length 0 _ (by omega) (by simp) (fun j hj => by omega)


theorem eqInt64S_l (a b : List Int) (hl : a.length = b.length) (ha : a.length ≤ 9223372036854775807) (d : Nat) : ∀ (i : Nat), i + d = a.length → Ev (fun k => laws_eqInt64S.l0 k a b (i : Int)) (decide (a.drop i = b.drop i)) := by
  induction d with
  | zero =>
    intro i hi
    refine Ev.step (fun k => by rw [laws_eqInt64S.l0]) ?_
    simp only [if_neg (show ¬ (i : Int) < (a.length : Int) by omega)]
    rw [List.drop_of_length_le (show a.length ≤ i by omega), List.drop_of_length_le (show b.length ≤ i by omega)]
    simp only [decide_true]
    exact Ev.now _
  | succ d ih =>
    intro i hi
    refine Ev.step (fun k => by rw [laws_eqInt64S.l0]) ?_
    simp only [if_pos (show (i : Int) < (a.length : Int) by omega), if_pos (show 0 ≤ (i : Int) by omega), if_pos (show (i : Int) < (b.length : Int) by omega), wrap_succ (show i < 9223372036854775807 by omega)]
    rw [drop_rd a i (by omega), drop_rd b i (by omega)]
    by_cases e : rd a (i : Int) = rd b (i : Int)
    · simp only [if_pos e]
      exact (ih (i + 1) (by omega)).cast (by simp [e])
    · simp only [if_neg e]
      exact (Ev.now false).cast (by simp [e])
theorem eqInt64S_ev (a b : List Int) (ha : a.length ≤ 9223372036854775807) : Ev (fun k => laws_eqInt64S.f k a b) (decide (a = b)) := by
  simp only [laws_eqInt64S.f]
  by_cases hl : a.length = b.length
  · simp only [if_pos (show (a.length : Int) = (b.length : Int) by omega)]
    exact (eqInt64S_l a b hl ha a.length 0 (by omega)).cast (by simp)
  · simp only [if_neg (show ¬ (a.length : Int) = (b.length : Int) by omega)]
    exact (Ev.now false).cast (by have : a ≠ b := (fun e => hl (by rw [e])); simp [this])

def Want_FnExactLikeOutcomes : Prop := ∀ (l0_0 : List (Int)) (a0_1 : Int) (a0_2 : Int) (l1_0 : List (Int)) (a1_1 : Int) (a1_2 : Int), ((l0_0.length ≤ 9223372036854775807 ∧ ∀ u1 ∈ l0_0, (Lit.int .i64 u1).wf = true) ∧ ((Lit.int .i64 a0_1).wf = true ∧ (Lit.int .i64 a0_2).wf = true)) → ((l1_0.length ≤ 9223372036854775807 ∧ ∀ u2 ∈ l1_0, (Lit.int .i64 u2).wf = true) ∧ ((Lit.int .i64 a1_1).wf = true ∧ (Lit.int .i64 a1_2).wf = true)) → ∃ k, laws_FnExactLikeOutcomes.f k l0_0 a0_1 a0_2 l1_0 a1_1 a1_2 = some true
theorem szOutcome_eq (l : List Int) (x y n : Int) (h0 : 0 ≤ n) (h1 : n ≤ 1048576) (hl : l.length ≤ 9223372036854775807) : laws_szOutcome.f l x y n = some (if n - (l.length : Int) < 0 then -1 else n - (l.length : Int)) := by
  have hw : wrap64 (n - (l.length : Int)) = n - (l.length : Int) := wrap_id (by omega) (by omega)
  simp only [laws_szOutcome.f, laws_szInt64S.f, hw]
  by_cases h : n - (l.length : Int) < 0
  · simp only [if_pos h, Option.bind_some, if_pos (show (-1 : Int) < 0 by omega)]
  · simp only [if_neg h, Option.bind_some]
theorem FnExactLikeOutcomes : Want_FnExactLikeOutcomes := by
  intro a x y b z u hq hq'
  have ha0 := hq.1.1
  have hb0 := hq'.1.1
  refine Ev.rounds ?_
  simp only [laws_FnExactLikeOutcomes.f, szOutcome_eq a x y 1048576 (by omega) (by omega) ha0, Option.bind_some]
  by_cases h : (1048576 : Int) - (a.length : Int) < 0
  · simp only [if_pos h, if_pos (show (-1 : Int) < 0 by omega)]; exact Ev.now _
  simp only [if_neg h, szOutcome_eq b z u (1048576 - (a.length : Int)) (by omega) (by omega) hb0, Option.bind_some]
  by_cases g : (1048576 : Int) - (a.length : Int) - (b.length : Int) < 0
  · simp only [if_pos g, if_pos (show (-1 : Int) < 0 by omega)]; exact Ev.now _
  simp only [if_neg g]
  have ta : Ev (fun k => laws_toOutcome.f k a x y) (a, x, y) := by
    simp only [laws_toOutcome.f]
    refine Ev.bind (toInt64S_ev a (by omega)) ?_
    exact Ev.now _
  have tb : Ev (fun k => laws_toOutcome.f k b z u) (b, z, u) := by
    simp only [laws_toOutcome.f]
    refine Ev.bind (toInt64S_ev b (by omega)) ?_
    exact Ev.now _
  have qa : Ev (fun k => laws_eqOutcome.f k a x y a x y) true := by
    simp only [laws_eqOutcome.f]
    refine Ev.bind (eqInt64S_ev a a (by omega)) ?_
    simp only [decide_true, if_true]
    exact Ev.now _
  have qb : Ev (fun k => laws_eqOutcome.f k b z u b z u) true := by
    simp only [laws_eqOutcome.f]
    refine Ev.bind (eqInt64S_ev b b (by omega)) ?_
    simp only [decide_true, if_true]
    exact Ev.now _
  refine Ev.bind ta ?_
  refine Ev.bind tb ?_
  refine Ev.bind (specLike_ev a b (by omega) x y z u) ?_
  refine Ev.bind ta ?_
  refine Ev.bind tb ?_
  refine Ev.bind (implLike_ev a b (by omega) x y z u) ?_
  simp only [bne_self_eq_false, Bool.false_eq_true, if_false]
  refine Ev.bind ta ?_
  refine Ev.bind qa ?_
  simp only [if_true]
  refine Ev.bind tb ?_
  refine Ev.bind qb ?_
  simp only [if_true]
  exact Ev.now _
end Go.Proofs.Ytfpobacomphnbaa.Pure
