/- NatOf of the program and of the reference answer alike, for every whole number, in new memory each time; no condition. -/
import Derived.Test.YtfpobacomphnbaaPFnExactNatOfx1
import Derived.Test.YtfpobacomphnbaaNt
set_option linter.unusedVariables false
set_option linter.unusedSimpArgs false
namespace Go.Proofs.Ytfpobacomphnbaa.Pure
open Go.RowKit Go.Proofs.Ytfpobacomphnbaa.PFnExactNatOf Go.Proofs.YtfpobacomphnbaaW.PrintWords Go.Proofs.YtfpobacomphnbaaW.PrintLast Go.Proofs.YtfpobacomphnbaaW.PrintMore Go.Proofs.Ytfpobacomphnbaa.Bs

theorem specNatOf_l (n : Nat) : ∀ (hn : n ≤ 9223372036854775807) (x : List Int) (hx : x.length + n ≤ 17592186044416 ∨ x.length + (dg n).length < 100), Ev (fun k => spec_NatOf.l0 k (n : Int) x) (x ++ dg n) := by
  induction n using Nat.strongRecOn with
  | ind n ih =>
    intro hn x hx
    refine Ev.step (fun k => by rw [spec_NatOf.l0]) ?_
    rcases Nat.eq_zero_or_pos n with h | h
    · subst h
      simp only [if_neg (show ¬ ((0 : Nat) : Int) > 0 by omega)]
      exact (Ev.now _).cast (by simp [dg_zero])
    · have h1 : Int.tmod (n : Int) 10000 = ((n % 10000 : Nat) : Int) := by rw [Int.tmod_eq_emod_of_nonneg (by omega)]; omega
      have h2 : wrap64 (Int.tdiv (n : Int) 10000) = ((n / 10000 : Nat) : Int) := by rw [Int.tdiv_eq_ediv_of_nonneg (by omega), wrap_id (by omega) (by omega)]; omega
      have h3 : x.length < 17592186044416 := by omega
      have h4 : (dg n).length = (dg (n / 10000)).length + 1 := by rw [dg_pos h]; simp
      simp only [if_pos (show (n : Int) > 0 by omega), if_pos h3, h1, h2]
      refine (ih (n / 10000) (by omega) (by omega) (x ++ [((n % 10000 : Nat) : Int)]) (by simp; omega)).cast ?_
      rw [dg_pos h]; simp
theorem specNatOf_ev (a : Int) (h0 : 0 ≤ a) (h1 : a ≤ 9223372036854775807) : Ev (fun k => spec_NatOf.f k a) (dg a.toNat) := by
  obtain ⟨n, rfl⟩ := Int.eq_ofNat_of_zero_le h0
  simp only [spec_NatOf.f]
  have := dg_len64 (n := n) (by omega)
  exact (specNatOf_l n (by omega) [] (by simp; omega)).cast (by simp)
theorem specNatOf_neg (a : Int) (h0 : a < 0) : Ev (fun k => spec_NatOf.f k a) [] := by
  simp only [spec_NatOf.f]
  refine Ev.step (fun k => by rw [spec_NatOf.l0]) ?_
  simp only [if_neg (show ¬ a > 0 by omega)]
  exact Ev.now _

theorem implNatOf_l (n : Nat) : ∀ (hn : n ≤ 9223372036854775807) (x : List Int) (hx : x.length + n ≤ 17592186044416 ∨ x.length + (dg n).length < 100), Ev (fun k => impl_NatOf.l0 k (n : Int) x) (x ++ dg n) := by
  induction n using Nat.strongRecOn with
  | ind n ih =>
    intro hn x hx
    refine Ev.step (fun k => by rw [impl_NatOf.l0]) ?_
    rcases Nat.eq_zero_or_pos n with h | h
    · subst h
      simp only [if_neg (show ¬ ((0 : Nat) : Int) > 0 by omega)]
      exact (Ev.now _).cast (by simp [dg_zero])
    · have h1 : Int.tmod (n : Int) 10000 = ((n % 10000 : Nat) : Int) := by rw [Int.tmod_eq_emod_of_nonneg (by omega)]; omega
      have h2 : wrap64 (Int.tdiv (n : Int) 10000) = ((n / 10000 : Nat) : Int) := by rw [Int.tdiv_eq_ediv_of_nonneg (by omega), wrap_id (by omega) (by omega)]; omega
      have h3 : x.length < 17592186044416 := by omega
      have h4 : (dg n).length = (dg (n / 10000)).length + 1 := by rw [dg_pos h]; simp
      simp only [if_pos (show (n : Int) > 0 by omega), if_pos h3, h1, h2]
      refine (ih (n / 10000) (by omega) (by omega) (x ++ [((n % 10000 : Nat) : Int)]) (by simp; omega)).cast ?_
      rw [dg_pos h]; simp
theorem implNatOf_ev (a : Int) (h0 : 0 ≤ a) (h1 : a ≤ 9223372036854775807) : Ev (fun k => impl_NatOf.f k a) (dg a.toNat) := by
  obtain ⟨n, rfl⟩ := Int.eq_ofNat_of_zero_le h0
  simp only [impl_NatOf.f]
  have := dg_len64 (n := n) (by omega)
  exact (implNatOf_l n (by omega) [] (by simp; omega)).cast (by simp)
theorem implNatOf_neg (a : Int) (h0 : a < 0) : Ev (fun k => impl_NatOf.f k a) [] := by
  simp only [impl_NatOf.f]
  refine Ev.step (fun k => by rw [impl_NatOf.l0]) ?_
  simp only [if_neg (show ¬ a > 0 by omega)]
  exact Ev.now _

theorem eqInt64S_l (a b : List Int) (hl : a.length = b.length) (ha : a.length ≤ 9223372036854775807) (d : Nat) : ∀ (i : Nat), i + d = a.length → Ev (fun k => laws_eqInt64S.l0 k a b (i : Int)) (decide (a.drop i = b.drop i)) := by
  induction d with
  | zero =>
    intro i hi
    refine Ev.step (fun k => by rw [laws_eqInt64S.l0]) ?_
    simp only [if_neg (show ¬ (i : Int) < (a.length : Int) by omega)]
    rw [List.drop_of_length_le (show a.length ≤ i by omega), List.drop_of_length_le (show b.length ≤ i by omega)]
    simp only [decide_true]
    exact Ev.now _
  | succ d ih =>
    intro i hi
    refine Ev.step (fun k => by rw [laws_eqInt64S.l0]) ?_
    simp only [if_pos (show (i : Int) < (a.length : Int) by omega), if_pos (show 0 ≤ (i : Int) by omega), if_pos (show (i : Int) < (b.length : Int) by omega), wrap_succ (show i < 9223372036854775807 by omega)]
    rw [drop_rd a i (by omega), drop_rd b i (by omega)]
    by_cases e : rd a (i : Int) = rd b (i : Int)
    · simp only [if_pos e]
      exact (ih (i + 1) (by omega)).cast (by simp [e])
    · simp only [if_neg e]
      exact (Ev.now false).cast (by simp [e])
theorem eqInt64S_ev (a b : List Int) (ha : a.length ≤ 9223372036854775807) : Ev (fun k => laws_eqInt64S.f k a b) (decide (a = b)) := by
  simp only [laws_eqInt64S.f]
  by_cases hl : a.length = b.length
  · simp only [if_pos (show (a.length : Int) = (b.length : Int) by omega)]
    exact (eqInt64S_l a b hl ha a.length 0 (by omega)).cast (by simp)
  · simp only [if_neg (show ¬ (a.length : Int) = (b.length : Int) by omega)]
    exact (Ev.now false).cast (by have : a ≠ b := (fun e => hl (by rw [e])); simp [this])

theorem markInt64S_l (n : Nat) (m : Int) (h0 : 0 ≤ m) (hm : m + n ≤ 4611686018427387904) (d : Nat) : ∀ (i : Nat) (x : List Int), i + d = n → x.length = n → (∀ j, j < i → x[j]? = some (m + (j : Int))) → Ev (fun k => laws_markInt64S.l0 k x (m + (i : Int)) (i : Int)) (m + (n : Int), ups m n) := by
  induction d with
  | zero =>
    intro i x hi hx ht
    refine Ev.step (fun k => by rw [laws_markInt64S.l0]) ?_
    simp only [if_neg (show ¬ (i : Int) < (x.length : Int) by omega)]
    obtain rfl : x = ups m n := ext_at (by rw [hx, ups_len]) (fun j hj => by rw [ups_len] at hj; rw [ht j (by omega), ups_at hj])
    obtain rfl : i = n := by omega
    exact Ev.now _
  | succ d ih =>
    intro i x hi hx ht
    refine Ev.step (fun k => by rw [laws_markInt64S.l0]) ?_
    have hw : wrap64 (m + (i : Int) + 1) = m + ((i + 1 : Nat) : Int) := by unfold wrap64; omega
    simp only [if_pos (show (i : Int) < (x.length : Int) by omega), if_pos (show 0 ≤ (i : Int) by omega), wrap_succ (show i < 9223372036854775807 by omega), hw, Int.toNat_natCast]
    refine ih (i + 1) _ (by omega) (by simpa using hx) (fun j hj => ?_)
    rw [List.getElem?_set]
    by_cases e : i = j
    · subst e
      rw [if_pos rfl, if_pos (by omega)]
    · rw [if_neg e]; exact ht j (by omega)
theorem markInt64S_ev (l : List Int) (m : Int) (h0 : 0 ≤ m) (hm : m + l.length ≤ 4611686018427387904) : Ev (fun k => laws_markInt64S.f k l m) (m + (l.length : Int), ups m l.length) := by
  simp only [laws_markInt64S.f]
  have h := markInt64S_l l.length m h0 hm l.length 0 l (by omega) rfl (fun j hj => by omega)
  simpa using h
theorem heldInt64S_l (n : Nat) (m : Int) (h0 : 0 ≤ m) (hm : m + n ≤ 4611686018427387904) (d : Nat) : ∀ (i : Nat), i + d = n → Ev (fun k => laws_heldInt64S.l0 k (ups m n) (m + (i : Int)) (i : Int)) (m + (n : Int)) := by
  induction d with
  | zero =>
    intro i hi
    refine Ev.step (fun k => by rw [laws_heldInt64S.l0]) ?_
    simp only [ups_len, if_neg (show ¬ (i : Int) < (n : Int) by omega)]
    obtain rfl : i = n := by omega
    exact Ev.now _
  | succ d ih =>
    intro i hi
    refine Ev.step (fun k => by rw [laws_heldInt64S.l0]) ?_
    have hw : wrap64 (m + (i : Int) + 1) = m + ((i + 1 : Nat) : Int) := by unfold wrap64; omega
    simp only [ups_len, if_pos (show (i : Int) < (n : Int) by omega), if_pos (show 0 ≤ (i : Int) by omega), wrap_succ (show i < 9223372036854775807 by omega), hw, ups_rd (show i < n by omega), if_true]
    exact ih (i + 1) (by omega)
theorem heldInt64S_ev (n : Nat) (m : Int) (h0 : 0 ≤ m) (hm : m + n ≤ 4611686018427387904) : Ev (fun k => laws_heldInt64S.f k (ups m n) m) (m + (n : Int)) := by
  simp only [laws_heldInt64S.f]
  have h := heldInt64S_l n m h0 hm n 0 (by omega)
  simpa using h

theorem natOf_same (a : Int) (h : (Lit.int .i64 a).wf = true) : ∃ l : List Int, l.length ≤ 5 ∧ Ev (fun k => spec_NatOf.f k a) l ∧ Ev (fun k => impl_NatOf.f k a) l := by
  have hw := wf_i64 h
  by_cases h0 : 0 ≤ a
  · exact ⟨_, dg_len64 (by omega), specNatOf_ev a h0 hw.2, implNatOf_ev a h0 hw.2⟩
  · exact ⟨[], by simp, specNatOf_neg a (by omega), implNatOf_neg a (by omega)⟩
theorem FnExactNatOf : laws_FnExactNatOf.Pure := by
  intro a h
  obtain ⟨l, hl, e1, e2⟩ := natOf_same a h
  refine Ev.rounds ?_
  simp only [laws_FnExactNatOf.f]
  refine Ev.bind e1 ?_
  refine Ev.bind e2 ?_
  refine Ev.bind (eqInt64S_ev l l (by omega)) ?_
  simp only [decide_true, if_true]
  refine Ev.bind (markInt64S_ev l 1 (by omega) (by omega)) ?_
  refine Ev.bind (heldInt64S_ev l.length 1 (by omega) (by omega)) ?_
  simp only [if_neg (show ¬ (1 : Int) + (l.length : Int) < 0 by omega), if_true]
  refine Ev.bind e2 ?_
  refine Ev.bind (eqInt64S_ev l l (by omega)) ?_
  simp only [decide_true, if_true]
  refine Ev.bind (heldInt64S_ev l.length 1 (by omega) (by omega)) ?_
  simp only [if_neg (show ¬ (1 : Int) + (l.length : Int) < 0 by omega), if_true]
  exact Ev.now _
end Go.Proofs.Ytfpobacomphnbaa.Pure
