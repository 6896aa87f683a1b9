/- SubNat of the program and of the reference answer alike, for all lists of whole numbers, in new memory each time, and the arguments are left as they were; no condition. -/
import Derived.Test.YtfpobacomphnbaaPFnExactSubNatx4
import Derived.Test.YtfpobacomphnbaaNt
set_option linter.unusedVariables false
set_option linter.unusedSimpArgs false
namespace Go.Proofs.Ytfpobacomphnbaa.Pure
open Go.RowKit Go.Proofs.Ytfpobacomphnbaa.PFnExactSubNat Go.Proofs.YtfpobacomphnbaaW.PrintWords Go.Proofs.YtfpobacomphnbaaW.PrintLast Go.Proofs.YtfpobacomphnbaaW.PrintMore Go.Proofs.Ytfpobacomphnbaa.Bs

theorem l1In_eq (a b c : Int) : spec_l1In.f a b c = some (decide (b ≤ a) && decide (a ≤ c)) := by
  unfold spec_l1In.f
  by_cases h : a ≥ b
  · rw [if_pos h]; simp [show b ≤ a from h]
  · rw [if_neg h]; simp [show ¬ b ≤ a from h]
theorem specNatOk_l (x : List Int) (hx : x.length ≤ 4611686018427387904) (d : Nat) : ∀ i : Nat, i + d = x.length → Ev (fun k => spec_NatOk.l0 k x (i : Int)) (((x.drop i).all fun y => decide (0 ≤ y) && decide (y ≤ 9999)) && decide (x.length ≤ 100) && (x.isEmpty || rd x ((x.length : Int) - 1) != 0)) := by
  induction d with
  | zero =>
    intro i hi
    refine Ev.step (fun k => by rw [spec_NatOk.l0]) ?_
    simp only [if_neg (show ¬ (i : Int) < (x.length : Int) by omega)]
    rw [List.drop_of_length_le (show x.length ≤ i by omega)]
    by_cases h1 : x.length ≤ 100
    · simp only [if_pos (show (x.length : Int) ≤ 100 by omega)]
      by_cases h2 : x.length = 0
      · simp only [if_pos (show (x.length : Int) = 0 by omega)]
        exact (Ev.now true).cast (by simp [List.length_eq_zero_iff.1 h2])
      · have hw : wrap64 ((x.length : Int) - 1) = (x.length : Int) - 1 := wrap_id (by omega) (by omega)
        simp only [if_neg (show ¬ (x.length : Int) = 0 by omega), hw, if_pos (show 0 ≤ (x.length : Int) - 1 by omega), if_pos (show (x.length : Int) - 1 < (x.length : Int) by omega)]
        have hne : x.isEmpty = false := by cases x; simp at h2; rfl
        exact (Ev.now _).cast (by simp [h1, hne])
    · simp only [if_neg (show ¬ (x.length : Int) ≤ 100 by omega)]
      exact (Ev.now false).cast (by simp [h1])
  | succ d ih =>
    intro i hi
    refine Ev.step (fun k => by rw [spec_NatOk.l0]) ?_
    simp only [if_pos (show (i : Int) < (x.length : Int) by omega), if_pos (show 0 ≤ (i : Int) by omega), l1In_eq, Option.bind_some, wrap_succ (show i < 9223372036854775807 by omega)]
    rw [drop_rd x i (by omega), List.all_cons]
    by_cases h : (decide (0 ≤ rd x (i : Int)) && decide (rd x (i : Int) ≤ 9999)) = true
    · simp only [if_pos h]
      exact (ih (i + 1) (by omega)).cast (by rw [h]; simp)
    · simp only [if_neg h]
      exact (Ev.now false).cast (by rw [Bool.not_eq_true] at h; rw [h]; simp)
theorem specNatOk_ev (x : List Int) (hx : x.length ≤ 4611686018427387904) : Ev (fun k => spec_NatOk.f k x) (nok x) := by
  simp only [spec_NatOk.f]
  exact (specNatOk_l x hx x.length 0 (by omega)).cast (by simp [nok])

theorem l1Both_ev (a b : List Int) (ha : a.length ≤ 1048576) (hb : b.length ≤ 1048576) : Ev (fun k => spec_l1Both.f k a b) (nok a && nok b) := by
  simp only [spec_l1Both.f]
  refine Ev.bind (specNatOk_ev a (by omega)) ?_
  by_cases h : nok a = true
  · simp only [h, if_true]
    refine Ev.bind (specNatOk_ev b (by omega)) ?_
    exact (Ev.now _).cast (by simp)
  · rw [Bool.not_eq_true] at h
    simp only [h, Bool.false_eq_true, if_false]
    exact (Ev.now _).cast (by simp)

theorem l1Limb_eq (a : List Int) (i : Nat) : spec_l1Limb.f a (i : Int) = some (lm a (i : Int)) := by
  unfold spec_l1Limb.f lm
  split
  · rw [if_pos (by omega)]
  · rfl

theorem dg_drop (m : Nat) (j : Nat) : (dg m).drop j = dg (m / 10000 ^ j) := by
  induction j with
  | zero => simp
  | succ j ih => rw [dg_step ih, Nat.pow_succ, Nat.div_div_eq_div_mul]
theorem dg_lm' (m j : Nat) : lm (dg m) (j : Int) = ((m / 10000 ^ j % 10000 : Nat) : Int) := dg_lm (dg_drop m j)
/-- -1, 0 or 1. -/
def cmpN (m n : Nat) : Int := if m < n then -1 else if m > n then 1 else 0
theorem up_lt {m n j : Nat} (h : m / 10000 ^ (j + 1) = n / 10000 ^ (j + 1)) (hl : m / 10000 ^ j % 10000 < n / 10000 ^ j % 10000) : m < n := by
  rcases Nat.lt_or_ge m n with h1 | h1
  · exact h1
  · exfalso
    have h2 : n / 10000 ^ j ≤ m / 10000 ^ j := Nat.div_le_div_right h1
    rw [Nat.pow_succ, ← Nat.div_div_eq_div_mul, ← Nat.div_div_eq_div_mul] at h
    omega
theorem up_eq {m n j : Nat} (h : m / 10000 ^ (j + 1) = n / 10000 ^ (j + 1)) (hl : m / 10000 ^ j % 10000 = n / 10000 ^ j % 10000) : m / 10000 ^ j = n / 10000 ^ j := by
  rw [Nat.pow_succ, ← Nat.div_div_eq_div_mul, ← Nat.div_div_eq_div_mul] at h
  omega
theorem top_zero {m j : Nat} (h : (dg m).length ≤ j) : m / 10000 ^ j = 0 := Nat.div_eq_of_lt (dg_len.1 h)
def cmpR (a b : List Int) : Int := if nok a = true ∧ nok b = true then cmpN (nv a) (nv b) else 2
theorem pw_len {j : Nat} (h : j ≤ 1000) : (dg (2 ^ j)).length ≤ 100 := by
  rw [dg_len]
  exact Nat.lt_of_le_of_lt (Nat.pow_le_pow_right (by omega) h) pow_room
theorem pw_nok {j : Nat} (h : j ≤ 1000) : nok (dg (2 ^ j)) = true := by rw [nok_dg]; exact decide_eq_true (pw_len h)
theorem pw_twice (j : Nat) : 2 ^ j + 2 ^ j = 2 ^ (j + 1) := by rw [Nat.pow_succ]; omega
theorem dg_one : ([1] : List Int) = dg (2 ^ 0) := by rw [dg_pos (by omega)]; simp [dg_zero]

theorem specCmp_l (m n : Nat) (j : Nat) : j ≤ 1048576 → m / 10000 ^ j = n / 10000 ^ j → Ev (fun k => spec_CmpNat.l0 k (dg m) (dg n) ((j : Int) - 1)) (cmpN m n) := by
  induction j with
  | zero =>
    intro hj h
    refine Ev.step (fun k => by rw [spec_CmpNat.l0]) ?_
    simp only [if_neg (show ¬ ((0 : Nat) : Int) - 1 ≥ 0 by omega)]
    exact (Ev.now _).cast (by simp at h; subst h; simp [cmpN])
  | succ j ih =>
    intro hj h
    refine Ev.step (fun k => by rw [spec_CmpNat.l0]) ?_
    have e : ((j + 1 : Nat) : Int) - 1 = (j : Int) := by omega
    simp only [e, if_pos (show (j : Int) ≥ 0 by omega), l1Limb_eq, dg_lm', Option.bind_some]
    by_cases h1 : m / 10000 ^ j % 10000 < n / 10000 ^ j % 10000
    · simp only [if_pos (show ((m / 10000 ^ j % 10000 : Nat) : Int) < ((n / 10000 ^ j % 10000 : Nat) : Int) by omega)]
      exact (Ev.now _).cast (by rw [cmpN, if_pos (up_lt h h1)])
    · simp only [if_neg (show ¬ ((m / 10000 ^ j % 10000 : Nat) : Int) < ((n / 10000 ^ j % 10000 : Nat) : Int) by omega)]
      by_cases h2 : n / 10000 ^ j % 10000 < m / 10000 ^ j % 10000
      · simp only [if_pos (show ((m / 10000 ^ j % 10000 : Nat) : Int) > ((n / 10000 ^ j % 10000 : Nat) : Int) by omega)]
        have := up_lt h.symm h2
        exact (Ev.now _).cast (by rw [cmpN, if_neg (by omega), if_pos this])
      · simp only [if_neg (show ¬ ((m / 10000 ^ j % 10000 : Nat) : Int) > ((n / 10000 ^ j % 10000 : Nat) : Int) by omega), wrap_id (show -9223372036854775808 ≤ (j : Int) - 1 by omega) (show (j : Int) - 1 ≤ 9223372036854775807 by omega)]
        exact ih (by omega) (up_eq h (by omega))
theorem specCmp_ev (a b : List Int) (ha : a.length ≤ 1048576) (hb : b.length ≤ 1048576) : Ev (fun k => spec_CmpNat.f k a b) (cmpR a b) := by
  simp only [spec_CmpNat.f]
  refine Ev.bind (l1Both_ev a b ha hb) ?_
  by_cases h : (nok a && nok b) = true
  · simp only [if_pos h]
    rw [Bool.and_eq_true] at h
    obtain ⟨m, rfl, hm⟩ := nok_ex h.1
    obtain ⟨n, rfl, hn⟩ := nok_ex h.2
    have e : cmpR (dg m) (dg n) = cmpN m n := by rw [cmpR, if_pos h, nv_dg, nv_dg]
    rw [e]
    by_cases g : ((dg n).length : Int) > ((dg m).length : Int)
    · simp only [if_pos g]
      refine Ev.step (fun k => by rw [spec_CmpNat.j0]) ?_
      simp only [wrap_id (show -9223372036854775808 ≤ ((dg n).length : Int) - 1 by omega) (show ((dg n).length : Int) - 1 ≤ 9223372036854775807 by omega)]
      exact specCmp_l m n _ (by omega) (by rw [top_zero (Nat.le_refl _), top_zero (by omega)])
    · simp only [if_neg g]
      refine Ev.step (fun k => by rw [spec_CmpNat.j0]) ?_
      simp only [wrap_id (show -9223372036854775808 ≤ ((dg m).length : Int) - 1 by omega) (show ((dg m).length : Int) - 1 ≤ 9223372036854775807 by omega)]
      exact specCmp_l m n _ (by omega) (by rw [top_zero (Nat.le_refl _), top_zero (by omega)])
  · simp only [if_neg h]
    exact (Ev.now _).cast (by rw [cmpR, if_neg (by simpa using h)])

theorem l1Trim_l (a : List Int) (ha : a.length < 17592186044416) (n : Nat) : n ≤ a.length → Ev (fun k => spec_l1Trim.l0 k a (n : Int)) (tr (a.take n)) := by
  induction n with
  | zero =>
    intro hn
    refine Ev.step (fun k => by rw [spec_l1Trim.l0]) ?_
    simp only [if_neg (show ¬ ((0 : Nat) : Int) > 0 by omega), Option.bind_some]
    have h1 : ((0 : Nat) : Int) ≤ (a.length : Int) := by omega
    simp only [if_pos (show 0 ≤ ((0 : Nat) : Int) by omega), if_pos h1, Int.toNat_natCast, List.take_zero, List.length_nil, if_pos (show 0 + 0 < 17592186044416 by omega), List.append_nil]
    exact (Ev.now _).cast (by simp [tr])
  | succ n ih =>
    intro hn
    refine Ev.step (fun k => by rw [spec_l1Trim.l0]) ?_
    simp only [if_pos (show ((n + 1 : Nat) : Int) > 0 by omega), wrap_pred (show n < 9223372036854775807 by omega), if_pos (show 0 ≤ (n : Int) by omega), if_pos (show (n : Int) < (a.length : Int) by omega)]
    by_cases e : rd a (n : Int) = 0
    · simp only [if_pos e]
      exact (ih (by omega)).cast (by rw [take_rd a n (by omega), e, tr_snoc0])
    · have hl : ([] : List Int).length + (a.take (n + 1)).length < 17592186044416 := by simp; omega
      simp only [if_neg e, Option.bind_some, if_pos (show 0 ≤ ((n + 1 : Nat) : Int) by omega), if_pos (show ((n + 1 : Nat) : Int) ≤ (a.length : Int) by omega), Int.toNat_natCast, if_pos hl]
      exact (Ev.now _).cast (by rw [take_rd a n (by omega), tr_snoc e]; simp)
theorem l1Trim_ev (a : List Int) (ha : a.length < 17592186044416) : Ev (fun k => spec_l1Trim.f k a) (tr a) := by
  simp only [spec_l1Trim.f]
  exact (l1Trim_l a ha a.length (Nat.le_refl _)).cast (by rw [List.take_length])

theorem specSub_l (a b : List Int) (ha : a.length ≤ 1048576) (d : Nat) : ∀ (i m n e : Nat) (out : List Int), i + d = a.length → a.drop i = dg m → b.drop i = dg n → e ≤ 1 → n + e ≤ m → out.length = i → Ev (fun k => spec_SubNat.l0 k a b out (e : Int) (i : Int)) (tr (out ++ sb m n e), true) := by
  induction d with
  | zero =>
    intro i m n e out hi hm hn he hle ho
    refine Ev.step (fun k => by rw [spec_SubNat.l0]) ?_
    simp only [if_neg (show ¬ (i : Int) < (a.length : Int) by omega)]
    have hm0 : m = 0 := by have := dg_lt hm; omega
    subst hm0
    refine Ev.bind (l1Trim_ev out (by omega)) ?_
    exact (Ev.now _).cast (by simp [sb_zero])
  | succ d ih =>
    intro i m n e out hi hm hn he hle ho
    refine Ev.step (fun k => by rw [spec_SubNat.l0]) ?_
    have hm0 : 0 < m := (dg_lt hm).1 (by omega)
    have hx := dg_rd hm
    have hy := dg_lm hn
    have hw : wrap64 (wrap64 (rd a (i : Int) - lm b (i : Int)) - (e : Int)) = ((m % 10000 : Nat) : Int) - ((n % 10000 : Nat) : Int) - (e : Int) := by
      rw [hx, hy, wrap_id (x := ((m % 10000 : Nat) : Int) - ((n % 10000 : Nat) : Int)) (by omega) (by omega), wrap_id (by omega) (by omega)]
    simp only [if_pos (show (i : Int) < (a.length : Int) by omega), if_pos (show 0 ≤ (i : Int) by omega), l1Limb_eq, Option.bind_some, if_pos (show out.length < 17592186044416 by omega), wrap_succ (show i < 9223372036854775807 by omega), hw]
    have hs := sb_pos n e hm0
    by_cases c : m % 10000 < n % 10000 + e
    · have hw2 : wrap64 (((m % 10000 : Nat) : Int) - ((n % 10000 : Nat) : Int) - (e : Int) + 10000) = ((m % 10000 + 10000 - n % 10000 - e : Nat) : Int) := by rw [wrap_id (by omega) (by omega)]; omega
      simp only [if_pos (show ((m % 10000 : Nat) : Int) - ((n % 10000 : Nat) : Int) - (e : Int) < 0 by omega), hw2]
      refine (ih (i + 1) (m / 10000) (n / 10000) 1 _ (by omega) (dg_step hm) (dg_step hn) (by omega) (by omega) (by simp; omega)).cast ?_
      rw [hs, if_pos c, show (m % 10000 + 10000 - n % 10000 - e) % 10000 = m % 10000 + 10000 - n % 10000 - e by omega]; simp
    · have hw2 : ((m % 10000 : Nat) : Int) - ((n % 10000 : Nat) : Int) - (e : Int) = ((m % 10000 - n % 10000 - e : Nat) : Int) := by omega
      simp only [if_neg (show ¬ ((m % 10000 : Nat) : Int) - ((n % 10000 : Nat) : Int) - (e : Int) < 0 by omega), hw2]
      refine (ih (i + 1) (m / 10000) (n / 10000) 0 _ (by omega) (dg_step hm) (dg_step hn) (by omega) (by omega) (by simp; omega)).cast ?_
      rw [hs, if_neg c, show (m % 10000 + 10000 - n % 10000 - e) % 10000 = m % 10000 - n % 10000 - e by omega]; simp
theorem specSub_ev (a b : List Int) (ha : a.length ≤ 1048576) (hb : b.length ≤ 1048576) : Ev (fun k => spec_SubNat.f k a b) (subR a b) := by
  simp only [spec_SubNat.f]
  refine Ev.bind (l1Both_ev a b ha hb) ?_
  by_cases h : (nok a && nok b) = true
  · simp only [if_pos h]
    rw [Bool.and_eq_true] at h
    refine Ev.bind (specCmp_ev a b ha hb) ?_
    refine Ev.step (fun k => by rw [spec_SubNat.j0]) ?_
    obtain ⟨m, rfl, hm⟩ := nok_ex h.1
    obtain ⟨n, rfl, hn⟩ := nok_ex h.2
    rw [subR_dg h.1 h.2, show cmpR (dg m) (dg n) = cmpN m n by rw [cmpR, if_pos h, nv_dg, nv_dg]]
    by_cases c : m < n
    · rw [if_neg (by omega)]
      simp only [show cmpN m n = -1 by rw [cmpN, if_pos c], show decide ((-1 : Int) < 0) = true by decide, if_true]
      exact Ev.now _
    · have e : decide (cmpN m n < 0) = false := by
        rw [cmpN, if_neg c]; split <;> simp
      rw [if_pos (by omega)]
      simp only [e, Bool.false_eq_true, if_false]
      refine (specSub_l (dg m) (dg n) ha (dg m).length 0 m n 0 [] (by omega) rfl rfl (by omega) (by omega) rfl).cast ?_
      rw [List.nil_append, tr_dg (sb_ok m n 0), sb_nv m n 0 ⟨by omega, by omega⟩]
      simp
  · simp only [if_neg h]
    refine Ev.step (fun k => by rw [spec_SubNat.j0]) ?_
    simp only [if_true]
    exact (Ev.now _).cast (by rw [subR, if_neg (by simp at h; intro h'; rw [h h'.1] at h'; simp at h')])

theorem implNatOk_l (x : List Int) (hx : x.length ≤ 100) (d : Nat) : ∀ i : Nat, i + d = x.length → Ev (fun k => impl_NatOk.l0 k x x (x.length : Int) (i : Int)) (((x.drop i).all fun y => decide (0 ≤ y) && decide (y ≤ 9999)) && (x.isEmpty || rd x ((x.length : Int) - 1) != 0)) := by
  induction d with
  | zero =>
    intro i hi
    refine Ev.step (fun k => by rw [impl_NatOk.l0]) ?_
    simp only [if_neg (show ¬ (i : Int) < (x.length : Int) by omega)]
    rw [List.drop_of_length_le (show x.length ≤ i by omega)]
    by_cases h2 : x.length = 0
    · simp only [if_pos (show (x.length : Int) = 0 by omega)]
      exact (Ev.now true).cast (by simp [List.length_eq_zero_iff.1 h2])
    · have hw : wrap64 ((x.length : Int) - 1) = (x.length : Int) - 1 := wrap_id (by omega) (by omega)
      simp only [if_neg (show ¬ (x.length : Int) = 0 by omega), hw, if_pos (show 0 ≤ (x.length : Int) - 1 by omega), if_pos (show (x.length : Int) - 1 < (x.length : Int) by omega)]
      have hne : x.isEmpty = false := by cases x; simp at h2; rfl
      exact (Ev.now _).cast (by simp [hne])
  | succ d ih =>
    intro i hi
    refine Ev.step (fun k => by rw [impl_NatOk.l0]) ?_
    simp only [if_pos (show (i : Int) < (x.length : Int) by omega), if_pos (show 0 ≤ (i : Int) by omega), wrap_succ (show i < 9223372036854775807 by omega)]
    rw [drop_rd x i (by omega), List.all_cons]
    by_cases h : rd x (i : Int) < 0
    · simp only [if_pos h]
      exact (Ev.now false).cast (by rw [decide_eq_false (show ¬ 0 ≤ rd x (i : Int) by omega)]; simp)
    · simp only [if_neg h]
      by_cases h' : rd x (i : Int) ≥ 10000
      · simp only [if_pos h']
        exact (Ev.now false).cast (by rw [decide_eq_false (show ¬ rd x (i : Int) ≤ 9999 by omega)]; simp)
      · simp only [if_neg h']
        exact (ih (i + 1) (by omega)).cast (by rw [decide_eq_true (show 0 ≤ rd x (i : Int) by omega), decide_eq_true (show rd x (i : Int) ≤ 9999 by omega)]; simp)
theorem implNatOk_ev (x : List Int) : Ev (fun k => impl_NatOk.f k x) (nok x) := by
  simp only [impl_NatOk.f]
  by_cases h : x.length ≤ 100
  · simp only [if_neg (show ¬ (x.length : Int) > 100 by omega)]
    exact (implNatOk_l x h x.length 0 (by omega)).cast (by simp [nok, h])
  · simp only [if_pos (show (x.length : Int) > 100 by omega)]
    exact (Ev.now false).cast (by simp [nok, h])

theorem place_eq (a : List Int) (i : Nat) : impl_great_place.f a (i : Int) = some (lm a (i : Int)) := by
  unfold impl_great_place.f lm
  split
  · rw [if_pos (by omega)]
  · rfl

theorem trimmed_l (d : Nat) : ∀ (a : List Int), a.length = d → d ≤ 4611686018427387904 → Ev (fun k => impl_great_trimmed.l0 k a) (tr a) := by
  induction d with
  | zero =>
    intro a ha hd
    refine Ev.step (fun k => by rw [impl_great_trimmed.l0]) ?_
    simp only [if_neg (show ¬ (a.length : Int) > 0 by omega)]
    exact (Ev.now _).cast (by rw [List.length_eq_zero_iff.1 ha]; rfl)
  | succ d ih =>
    intro a ha hd
    refine Ev.step (fun k => by rw [impl_great_trimmed.l0]) ?_
    have hw : wrap64 ((a.length : Int) - 1) = (d : Int) := by rw [ha, wrap_id (by omega) (by omega)]; omega
    simp only [if_pos (show (a.length : Int) > 0 by omega), hw, if_pos (show 0 ≤ (d : Int) by omega), if_pos (show (d : Int) < (a.length : Int) by omega), Int.toNat_natCast]
    have e := take_rd a d (by omega)
    rw [List.take_of_length_le (by omega)] at e
    by_cases c : rd a (d : Int) = 0
    · simp only [if_pos c, if_pos (show (d : Int) ≤ (a.length : Int) by omega)]
      refine (ih (a.take d) (by simp; omega) (by omega)).cast ?_
      rw [c] at e
      rw [show tr a = tr (a.take d ++ [0]) from congrArg tr e, tr_snoc0]
    · simp only [if_neg c]
      refine (Ev.now _).cast ?_
      rw [show tr a = tr (a.take d ++ [rd a (d : Int)]) from congrArg tr e, tr_snoc c, ← e]
theorem trimmed_ev (a : List Int) (h : a.length ≤ 4611686018427387904) : Ev (fun k => impl_great_trimmed.f k a) (tr a) := by
  simp only [impl_great_trimmed.f]
  exact trimmed_l a.length a rfl h
theorem minus_l (a b : List Int) (ha : a.length ≤ 1048576) (d : Nat) : ∀ (i m n e : Nat) (out : List Int), i + d = a.length → a.drop i = dg m → b.drop i = dg n → e ≤ 1 → n + e ≤ m → out.length = i → Ev (fun k => impl_great_minus.l0 k a b out (e : Int) (a.length : Int) (i : Int)) (tr (out ++ sb m n e)) := by
  induction d with
  | zero =>
    intro i m n e out hi hm hn he hle ho
    refine Ev.step (fun k => by rw [impl_great_minus.l0]) ?_
    simp only [if_neg (show ¬ (i : Int) < (a.length : Int) by omega)]
    have hm0 : m = 0 := by have := dg_lt hm; omega
    subst hm0
    refine Ev.bind (trimmed_ev out (by omega)) ?_
    exact (Ev.now _).cast (by simp [sb_zero])
  | succ d ih =>
    intro i m n e out hi hm hn he hle ho
    refine Ev.step (fun k => by rw [impl_great_minus.l0]) ?_
    have hm0 : 0 < m := (dg_lt hm).1 (by omega)
    have hx := dg_rd hm
    have hy := dg_lm hn
    have hw : wrap64 (wrap64 (rd a (i : Int) - lm b (i : Int)) - (e : Int)) = ((m % 10000 : Nat) : Int) - ((n % 10000 : Nat) : Int) - (e : Int) := by
      rw [hx, hy, wrap_id (x := ((m % 10000 : Nat) : Int) - ((n % 10000 : Nat) : Int)) (by omega) (by omega), wrap_id (by omega) (by omega)]
    simp only [if_pos (show (i : Int) < (a.length : Int) by omega), if_pos (show 0 ≤ (i : Int) by omega), place_eq, Option.bind_some, if_pos (show out.length < 17592186044416 by omega), wrap_succ (show i < 9223372036854775807 by omega), hw]
    have hs := sb_pos n e hm0
    by_cases c : m % 10000 < n % 10000 + e
    · have hw2 : wrap64 (((m % 10000 : Nat) : Int) - ((n % 10000 : Nat) : Int) - (e : Int) + 10000) = ((m % 10000 + 10000 - n % 10000 - e : Nat) : Int) := by rw [wrap_id (by omega) (by omega)]; omega
      simp only [if_pos (show ((m % 10000 : Nat) : Int) - ((n % 10000 : Nat) : Int) - (e : Int) < 0 by omega), hw2]
      refine (ih (i + 1) (m / 10000) (n / 10000) 1 _ (by omega) (dg_step hm) (dg_step hn) (by omega) (by omega) (by simp; omega)).cast ?_
      rw [hs, if_pos c, show (m % 10000 + 10000 - n % 10000 - e) % 10000 = m % 10000 + 10000 - n % 10000 - e by omega]; simp
    · have hw2 : ((m % 10000 : Nat) : Int) - ((n % 10000 : Nat) : Int) - (e : Int) = ((m % 10000 - n % 10000 - e : Nat) : Int) := by omega
      simp only [if_neg (show ¬ ((m % 10000 : Nat) : Int) - ((n % 10000 : Nat) : Int) - (e : Int) < 0 by omega), hw2]
      refine (ih (i + 1) (m / 10000) (n / 10000) 0 _ (by omega) (dg_step hm) (dg_step hn) (by omega) (by omega) (by simp; omega)).cast ?_
      rw [hs, if_neg c, show (m % 10000 + 10000 - n % 10000 - e) % 10000 = m % 10000 - n % 10000 - e by omega]; simp
theorem minus_ev (m n : Nat) (hm : (dg m).length ≤ 1048576) (h : n ≤ m) : Ev (fun k => impl_great_minus.f k (dg m) (dg n)) (dg (m - n)) := by
  simp only [impl_great_minus.f]
  refine (minus_l (dg m) (dg n) hm (dg m).length 0 m n 0 [] (by omega) rfl rfl (by omega) (by omega) rfl).cast ?_
  rw [List.nil_append, tr_dg (sb_ok m n 0), sb_nv m n 0 ⟨by omega, by omega⟩]
  simp

theorem against_l (m n : Nat) (j : Nat) : j ≤ 1048577 → m / 10000 ^ j = n / 10000 ^ j → Ev (fun k => impl_great_against.l0 k (dg m) (dg n) ((j : Int) - 1)) (cmpN m n) := by
  induction j with
  | zero =>
    intro hj h
    refine Ev.step (fun k => by rw [impl_great_against.l0]) ?_
    simp only [if_neg (show ¬ ((0 : Nat) : Int) - 1 ≥ 0 by omega)]
    exact (Ev.now _).cast (by simp at h; subst h; simp [cmpN])
  | succ j ih =>
    intro hj h
    refine Ev.step (fun k => by rw [impl_great_against.l0]) ?_
    have e : ((j + 1 : Nat) : Int) - 1 = (j : Int) := by omega
    simp only [e, if_pos (show (j : Int) ≥ 0 by omega), place_eq, dg_lm', Option.bind_some]
    by_cases h1 : m / 10000 ^ j % 10000 < n / 10000 ^ j % 10000
    · simp only [if_pos (show ((m / 10000 ^ j % 10000 : Nat) : Int) < ((n / 10000 ^ j % 10000 : Nat) : Int) by omega)]
      exact (Ev.now _).cast (by rw [cmpN, if_pos (up_lt h h1)])
    · simp only [if_neg (show ¬ ((m / 10000 ^ j % 10000 : Nat) : Int) < ((n / 10000 ^ j % 10000 : Nat) : Int) by omega)]
      by_cases h2 : n / 10000 ^ j % 10000 < m / 10000 ^ j % 10000
      · simp only [if_pos (show ((m / 10000 ^ j % 10000 : Nat) : Int) > ((n / 10000 ^ j % 10000 : Nat) : Int) by omega)]
        have := up_lt h.symm h2
        exact (Ev.now _).cast (by rw [cmpN, if_neg (by omega), if_pos this])
      · simp only [if_neg (show ¬ ((m / 10000 ^ j % 10000 : Nat) : Int) > ((n / 10000 ^ j % 10000 : Nat) : Int) by omega), wrap_id (show -9223372036854775808 ≤ (j : Int) - 1 by omega) (show (j : Int) - 1 ≤ 9223372036854775807 by omega)]
        exact ih (by omega) (up_eq h (by omega))
theorem against_ev (m n : Nat) (hm : (dg m).length ≤ 1048576) (hn : (dg n).length ≤ 1048576) : Ev (fun k => impl_great_against.f k (dg m) (dg n)) (cmpN m n) := by
  simp only [impl_great_against.f]
  obtain ⟨j, hj, h1, h2, h3⟩ : ∃ j : Nat, mx ((dg m).length : Int) ((dg n).length : Int) = (j : Int) ∧ (dg m).length ≤ j ∧ (dg n).length ≤ j ∧ j ≤ 1048576 := by
    unfold mx
    split
    · exact ⟨_, rfl, by omega, by omega, by omega⟩
    · exact ⟨_, rfl, by omega, by omega, by omega⟩
  simp only [hj, wrap_id (show -9223372036854775808 ≤ (j : Int) - 1 by omega) (show (j : Int) - 1 ≤ 9223372036854775807 by omega)]
  exact against_l m n j (by omega) (by rw [top_zero h1, top_zero h2])

theorem told_eq (l : List Int) : impl_told.f l = some (if l.length ≤ 100 then (l, true) else ([], false)) := by
  unfold impl_told.f
  by_cases h : l.length ≤ 100
  · rw [if_neg (by omega), if_pos h]
  · rw [if_pos (by omega), if_neg h]

theorem implSub_ev (a b : List Int) : Ev (fun k => impl_SubNat.f k a b) (subR a b) := by
  simp only [impl_SubNat.f]
  have hj : Ev (fun k => impl_SubNat.j0 k a b true) ([], false) := by
    refine Ev.step (fun k => by rw [impl_SubNat.j0]) ?_
    simp only [if_true]; exact Ev.now _
  refine Ev.bind (implNatOk_ev a) ?_
  by_cases h1 : nok a = true
  · simp only [if_pos h1]
    refine Ev.bind (implNatOk_ev b) ?_
    by_cases h2 : nok b = true
    · simp only [if_pos h2]
      obtain ⟨m, rfl, hm⟩ := nok_ex h1
      obtain ⟨n, rfl, hn⟩ := nok_ex h2
      refine Ev.bind (against_ev m n (by omega) (by omega)) ?_
      rw [subR_dg h1 h2]
      by_cases c : m < n
      · rw [if_neg (by omega)]
        simp only [show cmpN m n = -1 by rw [cmpN, if_pos c], show decide ((-1 : Int) < 0) = true by decide]
        exact hj
      · have e : decide (cmpN m n < 0) = false := by
          rw [cmpN, if_neg c]; split <;> simp
        rw [if_pos (by omega)]
        simp only [e]
        refine Ev.step (fun k => by rw [impl_SubNat.j0]) ?_
        simp only [Bool.false_eq_true, if_false]
        refine Ev.bind (minus_ev m n (by omega) (by omega)) ?_
        have := dg_len_mono (Nat.sub_le m n)
        simp only [told_eq, if_pos (show (dg (m - n)).length ≤ 100 by omega), Option.bind_some]
        exact Ev.now _
    · simp only [if_neg h2]
      exact hj.cast (by rw [subR, if_neg (fun h => h2 h.2.1)])
  · simp only [if_neg h1]
    exact hj.cast (by rw [subR, if_neg (fun h => h1 h.1)])

theorem toInt64S_l (l : List Int) (hl : l.length ≤ 1048576) (d : Nat) : ∀ (i : Nat) (x : List Int), i + d = l.length → x.length = l.length → (∀ j, j < i → x[j]? = l[j]?) → Ev (fun k => laws_toInt64S.l0 k l x (i : Int)) l := by
  induction d with
  | zero =>
    intro i x hi hx ht
    refine Ev.step (fun k => by rw [laws_toInt64S.l0]) ?_
    simp only [if_neg (show ¬ (i : Int) < (l.length : Int) by omega)]
    obtain rfl : x = l := ext_at hx (fun j hj => ht j (by omega))
    exact Ev.now _
  | succ d ih =>
    intro i x hi hx ht
    refine Ev.step (fun k => by rw [laws_toInt64S.l0]) ?_
    simp only [if_pos (show (i : Int) < (l.length : Int) by omega), if_pos (show 0 ≤ (i : Int) by omega), if_pos (show (i : Int) < (x.length : Int) by omega), wrap_succ (show i < 9223372036854775807 by omega), Int.toNat_natCast]
    refine ih (i + 1) _ (by omega) (by simpa using hx) (fun j hj => ?_)
    rw [List.getElem?_set]
    by_cases e : i = j
    · subst e
      rw [if_pos rfl, if_pos (by omega), rd_lt l i (by omega), List.getElem?_eq_getElem (by omega)]
    · rw [if_neg e]; exact ht j (by omega)
theorem toInt64S_ev (l : List Int) (hl : l.length ≤ 1048576) : Ev (fun k => laws_toInt64S.f k l) l := by
  simp only [laws_toInt64S.f, if_pos (show 0 ≤ (l.length : Int) by omega), Int.toNat_natCast, if_pos (show l.length ≤ 35184372088832 by omega)]
  exact toInt64S_l l hl l.length 0 _ (by omega) (by simp) (fun j hj => by omega)


theorem eqInt64S_l (a b : List Int) (hl : a.length = b.length) (ha : a.length ≤ 9223372036854775807) (d : Nat) : ∀ (i : Nat), i + d = a.length → Ev (fun k => laws_eqInt64S.l0 k a b (i : Int)) (decide (a.drop i = b.drop i)) := by
  induction d with
  | zero =>
    intro i hi
    refine Ev.step (fun k => by rw [laws_eqInt64S.l0]) ?_
    simp only [if_neg (show ¬ (i : Int) < (a.length : Int) by omega)]
    rw [List.drop_of_length_le (show a.length ≤ i by omega), List.drop_of_length_le (show b.length ≤ i by omega)]
    simp only [decide_true]
    exact Ev.now _
  | succ d ih =>
    intro i hi
    refine Ev.step (fun k => by rw [laws_eqInt64S.l0]) ?_
    simp only [if_pos (show (i : Int) < (a.length : Int) by omega), if_pos (show 0 ≤ (i : Int) by omega), if_pos (show (i : Int) < (b.length : Int) by omega), wrap_succ (show i < 9223372036854775807 by omega)]
    rw [drop_rd a i (by omega), drop_rd b i (by omega)]
    by_cases e : rd a (i : Int) = rd b (i : Int)
    · simp only [if_pos e]
      exact (ih (i + 1) (by omega)).cast (by simp [e])
    · simp only [if_neg e]
      exact (Ev.now false).cast (by simp [e])
theorem eqInt64S_ev (a b : List Int) (ha : a.length ≤ 9223372036854775807) : Ev (fun k => laws_eqInt64S.f k a b) (decide (a = b)) := by
  simp only [laws_eqInt64S.f]
  by_cases hl : a.length = b.length
  · simp only [if_pos (show (a.length : Int) = (b.length : Int) by omega)]
    exact (eqInt64S_l a b hl ha a.length 0 (by omega)).cast (by simp)
  · simp only [if_neg (show ¬ (a.length : Int) = (b.length : Int) by omega)]
    exact (Ev.now false).cast (by have : a ≠ b := (fun e => hl (by rw [e])); simp [this])

theorem markInt64S_l (n : Nat) (m : Int) (h0 : 0 ≤ m) (hm : m + n ≤ 4611686018427387904) (d : Nat) : ∀ (i : Nat) (x : List Int), i + d = n → x.length = n → (∀ j, j < i → x[j]? = some (m + (j : Int))) → Ev (fun k => laws_markInt64S.l0 k x (m + (i : Int)) (i : Int)) (m + (n : Int), ups m n) := by
  induction d with
  | zero =>
    intro i x hi hx ht
    refine Ev.step (fun k => by rw [laws_markInt64S.l0]) ?_
    simp only [if_neg (show ¬ (i : Int) < (x.length : Int) by omega)]
    obtain rfl : x = ups m n := ext_at (by rw [hx, ups_len]) (fun j hj => by rw [ups_len] at hj; rw [ht j (by omega), ups_at hj])
    obtain rfl : i = n := by omega
    exact Ev.now _
  | succ d ih =>
    intro i x hi hx ht
    refine Ev.step (fun k => by rw [laws_markInt64S.l0]) ?_
    have hw : wrap64 (m + (i : Int) + 1) = m + ((i + 1 : Nat) : Int) := by unfold wrap64; omega
    simp only [if_pos (show (i : Int) < (x.length : Int) by omega), if_pos (show 0 ≤ (i : Int) by omega), wrap_succ (show i < 9223372036854775807 by omega), hw, Int.toNat_natCast]
    refine ih (i + 1) _ (by omega) (by simpa using hx) (fun j hj => ?_)
    rw [List.getElem?_set]
    by_cases e : i = j
    · subst e
      rw [if_pos rfl, if_pos (by omega)]
    · rw [if_neg e]; exact ht j (by omega)
theorem markInt64S_ev (l : List Int) (m : Int) (h0 : 0 ≤ m) (hm : m + l.length ≤ 4611686018427387904) : Ev (fun k => laws_markInt64S.f k l m) (m + (l.length : Int), ups m l.length) := by
  simp only [laws_markInt64S.f]
  have h := markInt64S_l l.length m h0 hm l.length 0 l (by omega) rfl (fun j hj => by omega)
  simpa using h
theorem heldInt64S_l (n : Nat) (m : Int) (h0 : 0 ≤ m) (hm : m + n ≤ 4611686018427387904) (d : Nat) : ∀ (i : Nat), i + d = n → Ev (fun k => laws_heldInt64S.l0 k (ups m n) (m + (i : Int)) (i : Int)) (m + (n : Int)) := by
  induction d with
  | zero =>
    intro i hi
    refine Ev.step (fun k => by rw [laws_heldInt64S.l0]) ?_
    simp only [ups_len, if_neg (show ¬ (i : Int) < (n : Int) by omega)]
    obtain rfl : i = n := by omega
    exact Ev.now _
  | succ d ih =>
    intro i hi
    refine Ev.step (fun k => by rw [laws_heldInt64S.l0]) ?_
    have hw : wrap64 (m + (i : Int) + 1) = m + ((i + 1 : Nat) : Int) := by unfold wrap64; omega
    simp only [ups_len, if_pos (show (i : Int) < (n : Int) by omega), if_pos (show 0 ≤ (i : Int) by omega), wrap_succ (show i < 9223372036854775807 by omega), hw, ups_rd (show i < n by omega), if_true]
    exact ih (i + 1) (by omega)
theorem heldInt64S_ev (n : Nat) (m : Int) (h0 : 0 ≤ m) (hm : m + n ≤ 4611686018427387904) : Ev (fun k => laws_heldInt64S.f k (ups m n) m) (m + (n : Int)) := by
  simp only [laws_heldInt64S.f]
  have h := heldInt64S_l n m h0 hm n 0 (by omega)
  simpa using h

def Want_FnExactSubNat : Prop := ∀ (l0 : List (Int)) (l1 : List (Int)), (l0.length ≤ 9223372036854775807 ∧ ∀ u1 ∈ l0, (Lit.int .i64 u1).wf = true) → (l1.length ≤ 9223372036854775807 ∧ ∀ u2 ∈ l1, (Lit.int .i64 u2).wf = true) → ∃ k, laws_FnExactSubNat.f k l0 l1 = some true
theorem FnExactSubNat : Want_FnExactSubNat := by
  intro a b hq hq'
  refine Ev.rounds ?_
  simp only [laws_FnExactSubNat.f]
  by_cases h : (a.length : Int) > 1048576
  · simp only [if_pos h]; exact Ev.now _
  by_cases g : (b.length : Int) > 1048576
  · simp only [if_neg h, if_pos g]; exact Ev.now _
  simp only [if_neg h, if_neg g]
  have ha : a.length ≤ 1048576 := by omega
  have hb : b.length ≤ 1048576 := by omega
  have hr : (subR a b).1.length ≤ 100 := by
    unfold subR
    split
    · rename_i h
      obtain ⟨m, hm, hl⟩ := nok_ex h.1
      rw [hm, nv_dg] at *
      exact Nat.le_trans (dg_len_mono (Nat.sub_le _ _)) hl
    · simp
  have e1 := specSub_ev a b ha hb
  have e2 := implSub_ev a b
  generalize subR a b = R at hr e1 e2
  obtain ⟨r, ok⟩ := R
  refine Ev.bind (toInt64S_ev a ha) ?_
  refine Ev.bind (toInt64S_ev b hb) ?_
  refine Ev.bind e1 ?_
  refine Ev.bind (toInt64S_ev a ha) ?_
  refine Ev.bind (toInt64S_ev b hb) ?_
  refine Ev.bind e2 ?_
  refine Ev.bind (eqInt64S_ev r r (by simp at hr; omega)) ?_
  simp only [decide_true, if_true, bne_self_eq_false]
  refine Ev.step (fun k => by rw [laws_FnExactSubNat.j0]) ?_
  simp only [Bool.false_eq_true, if_false]
  refine Ev.bind (toInt64S_ev a ha) ?_
  refine Ev.bind (eqInt64S_ev a a (by omega)) ?_
  simp only [decide_true, if_true]
  refine Ev.bind (toInt64S_ev b hb) ?_
  refine Ev.bind (eqInt64S_ev b b (by omega)) ?_
  simp only [decide_true, if_true]
  refine Ev.bind (markInt64S_ev a 1 (by omega) (by omega)) ?_
  refine Ev.bind (markInt64S_ev b (1 + (a.length : Int)) (by omega) (by omega)) ?_
  simp only [if_neg (show ¬ (1 : Int) + (a.length : Int) + (b.length : Int) < 0 by omega)]
  refine Ev.bind (eqInt64S_ev r r (by simp at hr; omega)) ?_
  simp only [decide_true, if_true, bne_self_eq_false]
  refine Ev.step (fun k => by rw [laws_FnExactSubNat.j1]) ?_
  simp only [Bool.false_eq_true, if_false]
  refine Ev.bind (markInt64S_ev r 1 (by omega) (by simp at hr; omega)) ?_
  refine Ev.bind (heldInt64S_ev r.length 1 (by omega) (by simp at hr; omega)) ?_
  simp only [if_neg (show ¬ (1 : Int) + (r.length : Int) < 0 by omega), if_true]
  refine Ev.bind (toInt64S_ev a ha) ?_
  refine Ev.bind (toInt64S_ev b hb) ?_
  refine Ev.bind e2 ?_
  refine Ev.bind (eqInt64S_ev r r (by simp at hr; omega)) ?_
  simp only [decide_true, if_true, bne_self_eq_false]
  refine Ev.step (fun k => by rw [laws_FnExactSubNat.j2]) ?_
  simp only [Bool.false_eq_true, if_false]
  refine Ev.bind (heldInt64S_ev r.length 1 (by omega) (by simp at hr; omega)) ?_
  simp only [if_neg (show ¬ (1 : Int) + (r.length : Int) < 0 by omega), if_true]
  exact Ev.now _
end Go.Proofs.Ytfpobacomphnbaa.Pure
