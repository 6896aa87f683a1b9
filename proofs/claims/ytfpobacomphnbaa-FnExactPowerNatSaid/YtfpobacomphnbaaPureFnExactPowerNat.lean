/- PowerNat of the program and of the reference answer alike, for every whole number, in new memory each time; no condition. -/
import Derived.Test.YtfpobacomphnbaaPFnExactPowerNatx3
import Derived.Test.YtfpobacomphnbaaNt
set_option linter.unusedVariables false
set_option linter.unusedSimpArgs false
namespace Go.Proofs.Ytfpobacomphnbaa.Pure
open Go.RowKit Go.Proofs.Ytfpobacomphnbaa.PFnExactPowerNat Go.Proofs.YtfpobacomphnbaaW.PrintWords Go.Proofs.YtfpobacomphnbaaW.PrintLast Go.Proofs.YtfpobacomphnbaaW.PrintMore Go.Proofs.Ytfpobacomphnbaa.Bs

theorem l1In_eq (a b c : Int) : spec_l1In.f a b c = some (decide (b ≤ a) && decide (a ≤ c)) := by
  unfold spec_l1In.f
  by_cases h : a ≥ b
  · rw [if_pos h]; simp [show b ≤ a from h]
  · rw [if_neg h]; simp [show ¬ b ≤ a from h]
theorem specNatOk_l (x : List Int) (hx : x.length ≤ 4611686018427387904) (d : Nat) : ∀ i : Nat, i + d = x.length → Ev (fun k => spec_NatOk.l0 k x (i : Int)) (((x.drop i).all fun y => decide (0 ≤ y) && decide (y ≤ 9999)) && decide (x.length ≤ 100) && (x.isEmpty || rd x ((x.length : Int) - 1) != 0)) := by
  induction d with
  | zero =>
    intro i hi
    refine Ev.step (fun k => by rw [spec_NatOk.l0]) ?_
    simp only [if_neg (show ¬ (i : Int) < (x.length : Int) by omega)]
    rw [List.drop_of_length_le (show x.length ≤ i by omega)]
    by_cases h1 : x.length ≤ 100
    · simp only [if_pos (show (x.length : Int) ≤ 100 by omega)]
      by_cases h2 : x.length = 0
      · simp only [if_pos (show (x.length : Int) = 0 by omega)]
        exact (Ev.now true).cast (by simp [List.length_eq_zero_iff.1 h2])
      · have hw : wrap64 ((x.length : Int) - 1) = (x.length : Int) - 1 := wrap_id (by omega) (by omega)
        simp only [if_neg (show ¬ (x.length : Int) = 0 by omega), hw, if_pos (show 0 ≤ (x.length : Int) - 1 by omega), if_pos (show (x.length : Int) - 1 < (x.length : Int) by omega)]
        have hne : x.isEmpty = false := by cases x; simp at h2; rfl
        exact (Ev.now _).cast (by simp [h1, hne])
    · simp only [if_neg (show ¬ (x.length : Int) ≤ 100 by omega)]
      exact (Ev.now false).cast (by simp [h1])
  | succ d ih =>
    intro i hi
    refine Ev.step (fun k => by rw [spec_NatOk.l0]) ?_
    simp only [if_pos (show (i : Int) < (x.length : Int) by omega), if_pos (show 0 ≤ (i : Int) by omega), l1In_eq, Option.bind_some, wrap_succ (show i < 9223372036854775807 by omega)]
    rw [drop_rd x i (by omega), List.all_cons]
    by_cases h : (decide (0 ≤ rd x (i : Int)) && decide (rd x (i : Int) ≤ 9999)) = true
    · simp only [if_pos h]
      exact (ih (i + 1) (by omega)).cast (by rw [h]; simp)
    · simp only [if_neg h]
      exact (Ev.now false).cast (by rw [Bool.not_eq_true] at h; rw [h]; simp)
theorem specNatOk_ev (x : List Int) (hx : x.length ≤ 4611686018427387904) : Ev (fun k => spec_NatOk.f k x) (nok x) := by
  simp only [spec_NatOk.f]
  exact (specNatOk_l x hx x.length 0 (by omega)).cast (by simp [nok])

theorem l1Both_ev (a b : List Int) (ha : a.length ≤ 1048576) (hb : b.length ≤ 1048576) : Ev (fun k => spec_l1Both.f k a b) (nok a && nok b) := by
  simp only [spec_l1Both.f]
  refine Ev.bind (specNatOk_ev a (by omega)) ?_
  by_cases h : nok a = true
  · simp only [h, if_true]
    refine Ev.bind (specNatOk_ev b (by omega)) ?_
    exact (Ev.now _).cast (by simp)
  · rw [Bool.not_eq_true] at h
    simp only [h, Bool.false_eq_true, if_false]
    exact (Ev.now _).cast (by simp)

theorem l1Limb_eq (a : List Int) (i : Nat) : spec_l1Limb.f a (i : Int) = some (lm a (i : Int)) := by
  unfold spec_l1Limb.f lm
  split
  · rw [if_pos (by omega)]
  · rfl

theorem l1Trim_l (a : List Int) (ha : a.length < 17592186044416) (n : Nat) : n ≤ a.length → Ev (fun k => spec_l1Trim.l0 k a (n : Int)) (tr (a.take n)) := by
  induction n with
  | zero =>
    intro hn
    refine Ev.step (fun k => by rw [spec_l1Trim.l0]) ?_
    simp only [if_neg (show ¬ ((0 : Nat) : Int) > 0 by omega), Option.bind_some]
    have h1 : ((0 : Nat) : Int) ≤ (a.length : Int) := by omega
    simp only [if_pos (show 0 ≤ ((0 : Nat) : Int) by omega), if_pos h1, Int.toNat_natCast, List.take_zero, List.length_nil, if_pos (show 0 + 0 < 17592186044416 by omega), List.append_nil]
    exact (Ev.now _).cast (by simp [tr])
  | succ n ih =>
    intro hn
    refine Ev.step (fun k => by rw [spec_l1Trim.l0]) ?_
    simp only [if_pos (show ((n + 1 : Nat) : Int) > 0 by omega), wrap_pred (show n < 9223372036854775807 by omega), if_pos (show 0 ≤ (n : Int) by omega), if_pos (show (n : Int) < (a.length : Int) by omega)]
    by_cases e : rd a (n : Int) = 0
    · simp only [if_pos e]
      exact (ih (by omega)).cast (by rw [take_rd a n (by omega), e, tr_snoc0])
    · have hl : ([] : List Int).length + (a.take (n + 1)).length < 17592186044416 := by simp; omega
      simp only [if_neg e, Option.bind_some, if_pos (show 0 ≤ ((n + 1 : Nat) : Int) by omega), if_pos (show ((n + 1 : Nat) : Int) ≤ (a.length : Int) by omega), Int.toNat_natCast, if_pos hl]
      exact (Ev.now _).cast (by rw [take_rd a n (by omega), tr_snoc e]; simp)
theorem l1Trim_ev (a : List Int) (ha : a.length < 17592186044416) : Ev (fun k => spec_l1Trim.f k a) (tr a) := by
  simp only [spec_l1Trim.f]
  exact (l1Trim_l a ha a.length (Nat.le_refl _)).cast (by rw [List.take_length])
theorem l1Carry_end (x : List Int) (c : Nat) : ∀ (i : Nat) (out : List Int), x.length ≤ i → i + c ≤ 4611686018427387904 → out.length + c < 17592186044416 → Ev (fun k => spec_l1Carry.l0 k x out (c : Int) (i : Int)) (tr (out ++ dg c)) := by
  induction c using Nat.strongRecOn with
  | ind c ih =>
    intro i out hi hic ho
    refine Ev.step (fun k => by rw [spec_l1Carry.l0]) ?_
    simp only [if_neg (show ¬ (i : Int) < (x.length : Int) by omega)]
    rcases Nat.eq_zero_or_pos c with h | h
    · subst h
      simp only [if_neg (show ¬ ((0 : Nat) : Int) > 0 by omega)]
      refine Ev.bind (l1Trim_ev out (by omega)) ?_
      exact (Ev.now _).cast (by simp [dg_zero])
    · have h0 : lm x (i : Int) = 0 := by unfold lm; rw [if_neg (by omega)]
      simp only [if_pos (show (c : Int) > 0 by omega), l1Limb_eq, h0, Option.bind_some, if_pos (show out.length < 17592186044416 by omega), wrap_succ (show i < 9223372036854775807 by omega), Int.zero_add, wrap_id (show -9223372036854775808 ≤ (c : Int) by omega) (show (c : Int) ≤ 9223372036854775807 by omega), tmod4, tdiv4, wrap_id (show -9223372036854775808 ≤ ((c / 10000 : Nat) : Int) by omega) (show ((c / 10000 : Nat) : Int) ≤ 9223372036854775807 by omega)]
      refine (ih (c / 10000) (by omega) (i + 1) _ (by omega) (by omega) (by simp; omega)).cast ?_
      rw [dg_pos h]; simp
theorem l1Carry_l (x : List Int) (hx : ∀ y ∈ x, 0 ≤ y ∧ y ≤ 1000000000000) (hl : x.length ≤ 1000000000) (d : Nat) : ∀ (i c : Nat) (out : List Int), i + d = x.length → c ≤ 1000000000000 → out.length ≤ i → Ev (fun k => spec_l1Carry.l0 k x out (c : Int) (i : Int)) (tr (out ++ crr (x.drop i) c)) := by
  induction d with
  | zero =>
    intro i c out hi hc ho
    rw [List.drop_of_length_le (show x.length ≤ i by omega), crr]
    exact l1Carry_end x c i out (by omega) (by omega) (by omega)
  | succ d ih =>
    intro i c out hi hc ho
    refine Ev.step (fun k => by rw [spec_l1Carry.l0]) ?_
    have hm := hx (rd x (i : Int)) (by rw [rd_lt x i (by omega)]; exact List.getElem_mem _)
    have h0 : lm x (i : Int) = rd x (i : Int) := by unfold lm; rw [if_pos (by omega)]
    obtain ⟨y, hy⟩ := Int.eq_ofNat_of_zero_le hm.1
    have hs : wrap64 (rd x (i : Int) + (c : Int)) = ((y + c : Nat) : Int) := by rw [hy, wrap_id (by omega) (by omega)]; omega
    simp only [if_pos (show (i : Int) < (x.length : Int) by omega), l1Limb_eq, h0, Option.bind_some, if_pos (show out.length < 17592186044416 by omega), wrap_succ (show i < 9223372036854775807 by omega), hs, tmod4, tdiv4, wrap_id (show -9223372036854775808 ≤ (((y + c) / 10000 : Nat) : Int) by omega) (show (((y + c) / 10000 : Nat) : Int) ≤ 9223372036854775807 by omega)]
    refine (ih (i + 1) _ _ (by omega) (by omega) (by simp; omega)).cast ?_
    rw [drop_rd x i (by omega), crr, hy]; simp
theorem l1Carry_ev (x : List Int) (hx : ∀ y ∈ x, 0 ≤ y ∧ y ≤ 1000000000000) (hl : x.length ≤ 1000000000) : Ev (fun k => spec_l1Carry.f k x) (dg (nv x)) := by
  simp only [spec_l1Carry.f]
  refine (l1Carry_l x hx hl x.length 0 0 [] (by omega) (by omega) (by simp)).cast ?_
  rw [List.nil_append, List.drop_zero, tr_dg (crr_ok _ _), crr_nv, Nat.add_zero]

theorem specAdd_l (a b : List Int) (ha : a.length ≤ 1048576) (hb : b.length ≤ 1048576) (d : Nat) : ∀ (i m n : Nat) (out : List Int), m + n ≤ d → a.drop i = dg m → b.drop i = dg n → i ≤ 1048576 → out.length = i → (∀ y ∈ out, 0 ≤ y ∧ y ≤ 19998) → (dg (nv (out ++ sm m n))).length ≤ 1000000 → Ev (fun k => spec_AddNat.l0 k a b out (i : Int)) (if nok (dg (nv (out ++ sm m n))) = true then (dg (nv (out ++ sm m n)), true) else ([], false)) := by
  induction d using Nat.strongRecOn with
  | ind d ih =>
    intro i m n out hd hm hn hi ho hy hT
    have hstep : Ev (fun k => spec_AddNat.j1 k a b out (i : Int) (decide (0 < m ∨ 0 < n))) (if nok (dg (nv (out ++ sm m n))) = true then (dg (nv (out ++ sm m n)), true) else ([], false)) := by
      refine Ev.step (fun k => by rw [spec_AddNat.j1]) ?_
      by_cases h : 0 < m ∨ 0 < n
      · have hil : i < 1048576 := by rw [← dg_lt hm, ← dg_lt hn] at h; omega
        have hs : wrap64 (((m % 10000 : Nat) : Int) + ((n % 10000 : Nat) : Int)) = ((m % 10000 + n % 10000 : Nat) : Int) := by rw [wrap_id (by omega) (by omega)]; omega
        simp only [decide_eq_true h, if_true, l1Limb_eq, dg_lm hm, dg_lm hn, Option.bind_some, if_pos (show out.length < 17592186044416 by omega), wrap_succ (show i < 9223372036854775807 by omega), hs]
        have heq : (out ++ [((m % 10000 + n % 10000 : Nat) : Int)]) ++ sm (m / 10000) (n / 10000) = out ++ sm m n := by rw [sm_pos (m := m) (n := n) (by omega)]; simp
        rw [← heq] at hT ⊢
        refine ih (m / 10000 + n / 10000) (by omega) (i + 1) _ _ _ (Nat.le_refl _) (dg_step hm) (dg_step hn) (by omega) (by simp; omega) (fun y h' => ?_) hT
        rcases List.mem_append.1 h' with h' | h'
        · exact hy y h'
        · rw [List.mem_singleton] at h'; subst h'; omega
      · simp only [decide_eq_false h, Bool.false_eq_true, if_false]
        obtain rfl : m = 0 := by omega
        obtain rfl : n = 0 := by omega
        rw [sm_zero, List.append_nil] at hT ⊢
        refine Ev.bind (l1Carry_ev out (fun y h' => by have := hy y h'; omega) (by omega)) ?_
        refine Ev.bind (specNatOk_ev _ (by omega)) ?_
        by_cases e : nok (dg (nv out)) = true
        · simp only [if_pos e]; exact Ev.now _
        · simp only [if_neg e]; exact Ev.now _
    refine Ev.step (fun k => by rw [spec_AddNat.l0]) ?_
    by_cases h : (i : Int) < (a.length : Int)
    · simp only [if_pos h]
      have h' : 0 < m := (dg_lt hm).1 (by omega)
      rw [decide_eq_true (Or.inl h')] at hstep
      exact hstep
    · simp only [if_neg h]
      have h' : ¬ 0 < m := fun e => h (by have := (dg_lt hm).2 e; omega)
      have e : decide (0 < m ∨ 0 < n) = decide ((i : Int) < (b.length : Int)) := by
        have := dg_lt hn
        simp only [decide_eq_decide]; omega
      rw [e] at hstep
      exact hstep
theorem specAdd_ev (a b : List Int) (ha : a.length ≤ 1048576) (hb : b.length ≤ 1048576) : Ev (fun k => spec_AddNat.f k a b) (addR a b) := by
  simp only [spec_AddNat.f]
  refine Ev.bind (l1Both_ev a b ha hb) ?_
  by_cases h : (nok a && nok b) = true
  · simp only [if_pos h]
    rw [Bool.and_eq_true] at h
    obtain ⟨m, rfl, hm⟩ := nok_ex h.1
    obtain ⟨n, rfl, hn⟩ := nok_ex h.2
    have hs := sm_nv (m + n) m n (Nat.le_refl _)
    have hT := add_len hm hn
    refine (specAdd_l (dg m) (dg n) ha hb (m + n) 0 m n [] (Nat.le_refl _) rfl rfl (by omega) rfl (by simp) (by rw [List.nil_append, hs]; omega)).cast ?_
    rw [List.nil_append, hs, addR_dg h.1 h.2, nok_dg]
    by_cases e : (dg (m + n)).length ≤ 100
    · rw [if_pos (by simpa using e), if_pos e]
    · rw [if_neg (by simpa using e), if_neg e]
  · simp only [if_neg h]
    exact (Ev.now _).cast (by rw [addR, if_neg (by simp at h ⊢; exact fun h1 h2 => by simp [h h1] at h2)])

theorem dg_drop (m : Nat) (j : Nat) : (dg m).drop j = dg (m / 10000 ^ j) := by
  induction j with
  | zero => simp
  | succ j ih => rw [dg_step ih, Nat.pow_succ, Nat.div_div_eq_div_mul]
theorem dg_lm' (m j : Nat) : lm (dg m) (j : Int) = ((m / 10000 ^ j % 10000 : Nat) : Int) := dg_lm (dg_drop m j)
/-- -1, 0 or 1. -/
def cmpN (m n : Nat) : Int := if m < n then -1 else if m > n then 1 else 0
theorem up_lt {m n j : Nat} (h : m / 10000 ^ (j + 1) = n / 10000 ^ (j + 1)) (hl : m / 10000 ^ j % 10000 < n / 10000 ^ j % 10000) : m < n := by
  rcases Nat.lt_or_ge m n with h1 | h1
  · exact h1
  · exfalso
    have h2 : n / 10000 ^ j ≤ m / 10000 ^ j := Nat.div_le_div_right h1
    rw [Nat.pow_succ, ← Nat.div_div_eq_div_mul, ← Nat.div_div_eq_div_mul] at h
    omega
theorem up_eq {m n j : Nat} (h : m / 10000 ^ (j + 1) = n / 10000 ^ (j + 1)) (hl : m / 10000 ^ j % 10000 = n / 10000 ^ j % 10000) : m / 10000 ^ j = n / 10000 ^ j := by
  rw [Nat.pow_succ, ← Nat.div_div_eq_div_mul, ← Nat.div_div_eq_div_mul] at h
  omega
theorem top_zero {m j : Nat} (h : (dg m).length ≤ j) : m / 10000 ^ j = 0 := Nat.div_eq_of_lt (dg_len.1 h)
def cmpR (a b : List Int) : Int := if nok a = true ∧ nok b = true then cmpN (nv a) (nv b) else 2
theorem pw_len {j : Nat} (h : j ≤ 1000) : (dg (2 ^ j)).length ≤ 100 := by
  rw [dg_len]
  exact Nat.lt_of_le_of_lt (Nat.pow_le_pow_right (by omega) h) pow_room
theorem pw_nok {j : Nat} (h : j ≤ 1000) : nok (dg (2 ^ j)) = true := by rw [nok_dg]; exact decide_eq_true (pw_len h)
theorem pw_twice (j : Nat) : 2 ^ j + 2 ^ j = 2 ^ (j + 1) := by rw [Nat.pow_succ]; omega
theorem dg_one : ([1] : List Int) = dg (2 ^ 0) := by rw [dg_pos (by omega)]; simp [dg_zero]

theorem specPower_l (d : Nat) : ∀ j : Nat, j + d ≤ 1000 → Ev (fun k => spec_PowerNat.l0 k (d : Int) (dg (2 ^ j))) (dg (2 ^ (j + d)), true) := by
  induction d with
  | zero =>
    intro j hj
    refine Ev.step (fun k => by rw [spec_PowerNat.l0]) ?_
    simp only [if_neg (show ¬ ((0 : Nat) : Int) > 0 by omega)]
    exact Ev.now _
  | succ d ih =>
    intro j hj
    refine Ev.step (fun k => by rw [spec_PowerNat.l0]) ?_
    have h1 := pw_len (show j ≤ 1000 by omega)
    simp only [if_pos (show ((d + 1 : Nat) : Int) > 0 by omega), wrap_pred (show d < 9223372036854775807 by omega)]
    refine Ev.bind (specAdd_ev _ _ (by omega) (by omega)) ?_
    rw [addR_dg (pw_nok (by omega)) (pw_nok (by omega)), pw_twice, if_pos (pw_len (show j + 1 ≤ 1000 by omega))]
    exact (ih (j + 1) (by omega)).cast (by rw [show j + 1 + d = j + (d + 1) by omega])
def powR (a : Int) : List Int × Bool := if 0 ≤ a ∧ a ≤ 1000 then (dg (2 ^ a.toNat), true) else ([], false)
theorem specPower_ev (a : Int) : Ev (fun k => spec_PowerNat.f k a) (powR a) := by
  simp only [spec_PowerNat.f, l1In_eq, Option.bind_some]
  by_cases h : 0 ≤ a ∧ a ≤ 1000
  · obtain ⟨n, rfl⟩ := Int.eq_ofNat_of_zero_le h.1
    have e : (decide (0 ≤ (n : Int)) && decide ((n : Int) ≤ 1000)) = true := by simp; omega
    simp only [e, if_true, dg_one]
    exact (specPower_l n 0 (by omega)).cast (by rw [powR, if_pos h]; simp)
  · have e : (decide (0 ≤ a) && decide (a ≤ 1000)) = false := by simp; omega
    simp only [e, Bool.false_eq_true, if_false]
    exact (Ev.now _).cast (by rw [powR, if_neg h])

theorem place_eq (a : List Int) (i : Nat) : impl_great_place.f a (i : Int) = some (lm a (i : Int)) := by
  unfold impl_great_place.f lm
  split
  · rw [if_pos (by omega)]
  · rfl

theorem plus_l (a b : List Int) (ha : a.length ≤ 1048576) (hb : b.length ≤ 1048576) (d : Nat) : ∀ (i m n c : Nat) (out : List Int), m + n + c ≤ d → a.drop i = dg m → b.drop i = dg n → c ≤ 1 → i ≤ 1048576 + 1 → out.length = i → (i ≤ 1048576 ∨ c = 0) → Ev (fun k => impl_great_plus.l0 k a b out (c : Int) (i : Int)) (out ++ dg (m + n + c)) := by
  induction d using Nat.strongRecOn with
  | ind d ih =>
    intro i m n c out hd hm hn hc hi ho hic
    have hstep : Ev (fun k => impl_great_plus.j1 k a b out (c : Int) (i : Int) (decide (0 < m ∨ 0 < n ∨ 0 < c))) (out ++ dg (m + n + c)) := by
      refine Ev.step (fun k => by rw [impl_great_plus.j1]) ?_
      by_cases h : 0 < m ∨ 0 < n ∨ 0 < c
      · have hil : i ≤ 1048576 := by rw [← dg_lt hm, ← dg_lt hn] at h; omega
        have hs : wrap64 ((wrap64 (((m % 10000 : Nat) : Int) + ((n % 10000 : Nat) : Int))) + (c : Int)) = ((m % 10000 + n % 10000 + c : Nat) : Int) := by rw [wrap_id (x := ((m % 10000 : Nat) : Int) + ((n % 10000 : Nat) : Int)) (by omega) (by omega), wrap_id (by omega) (by omega)]; omega
        simp only [decide_eq_true h, if_true, place_eq, dg_lm hm, dg_lm hn, Option.bind_some, if_pos (show out.length < 17592186044416 by omega), wrap_succ (show i < 9223372036854775807 by omega), hs, tmod4, tdiv4, wrap_id (show -9223372036854775808 ≤ (((m % 10000 + n % 10000 + c) / 10000 : Nat) : Int) by omega) (show (((m % 10000 + n % 10000 + c) / 10000 : Nat) : Int) ≤ 9223372036854775807 by omega)]
        refine (ih (m / 10000 + n / 10000 + (m % 10000 + n % 10000 + c) / 10000) (by omega) (i + 1) _ _ _ _ (Nat.le_refl _) (dg_step hm) (dg_step hn) (by omega) (by omega) (by simp; omega) ?_).cast ?_
        · rcases Nat.lt_or_ge i 1048576 with h1 | h1
          · left; omega
          · right
            have e1 : m = 0 := by have := dg_lt hm; omega
            have e2 : n = 0 := by have := dg_lt hn; omega
            subst e1; subst e2; omega
        · have e1 : (m + n + c) % 10000 = (m % 10000 + n % 10000 + c) % 10000 := by omega
          have e2 : (m + n + c) / 10000 = m / 10000 + n / 10000 + (m % 10000 + n % 10000 + c) / 10000 := by omega
          rw [dg_pos (n := m + n + c) (by omega), e1, e2]; simp
      · simp only [decide_eq_false h, Bool.false_eq_true, if_false]
        obtain rfl : m = 0 := by omega
        obtain rfl : n = 0 := by omega
        obtain rfl : c = 0 := by omega
        exact (Ev.now _).cast (by simp [dg_zero])
    refine Ev.step (fun k => by rw [impl_great_plus.l0]) ?_
    by_cases h : (i : Int) < (a.length : Int)
    · simp only [if_pos h]
      have h' : 0 < m := (dg_lt hm).1 (by omega)
      rw [decide_eq_true (Or.inl h')] at hstep
      exact hstep
    · simp only [if_neg h]
      have h' : ¬ 0 < m := fun e => h (by have := (dg_lt hm).2 e; omega)
      by_cases g : (i : Int) < (b.length : Int)
      · simp only [if_pos g]
        have g' : 0 < n := (dg_lt hn).1 (by omega)
        rw [decide_eq_true (Or.inr (Or.inl g'))] at hstep
        exact hstep
      · simp only [if_neg g]
        have g' : ¬ 0 < n := fun e => g (by have := (dg_lt hn).2 e; omega)
        have e : decide (0 < m ∨ 0 < n ∨ 0 < c) = decide ((c : Int) > 0) := by
          simp only [decide_eq_decide]; omega
        rw [e] at hstep
        exact hstep
theorem plus_ev (m n : Nat) (hm : (dg m).length ≤ 1048576) (hn : (dg n).length ≤ 1048576) : Ev (fun k => impl_great_plus.f k (dg m) (dg n)) (dg (m + n)) := by
  simp only [impl_great_plus.f]
  exact (plus_l (dg m) (dg n) hm hn (m + n + 0) 0 m n 0 [] (Nat.le_refl _) rfl rfl (by omega) (by omega) rfl (by omega)).cast (by simp)

theorem told_eq (l : List Int) : impl_told.f l = some (if l.length ≤ 100 then (l, true) else ([], false)) := by
  unfold impl_told.f
  by_cases h : l.length ≤ 100
  · rw [if_neg (by omega), if_pos h]
  · rw [if_pos (by omega), if_neg h]

theorem implPower_l (d : Nat) : ∀ j : Nat, j + d ≤ 1000 → Ev (fun k => impl_PowerNat.l0 k (d : Int) (dg (2 ^ j))) (dg (2 ^ (j + d)), true) := by
  induction d with
  | zero =>
    intro j hj
    refine Ev.step (fun k => by rw [impl_PowerNat.l0]) ?_
    simp only [if_neg (show ¬ ((0 : Nat) : Int) > 0 by omega), told_eq, if_pos (pw_len (show j ≤ 1000 by omega)), Option.bind_some]
    exact Ev.now _
  | succ d ih =>
    intro j hj
    refine Ev.step (fun k => by rw [impl_PowerNat.l0]) ?_
    have h1 := pw_len (show j ≤ 1000 by omega)
    simp only [if_pos (show ((d + 1 : Nat) : Int) > 0 by omega), wrap_pred (show d < 9223372036854775807 by omega)]
    refine Ev.bind (plus_ev (2 ^ j) (2 ^ j) (by omega) (by omega)) ?_
    rw [pw_twice]
    exact (ih (j + 1) (by omega)).cast (by rw [show j + 1 + d = j + (d + 1) by omega])
theorem implPower_ev (a : Int) : Ev (fun k => impl_PowerNat.f k a) (powR a) := by
  simp only [impl_PowerNat.f]
  by_cases h0 : a < 0
  · simp only [if_pos h0]
    refine Ev.step (fun k => by rw [impl_PowerNat.j0]) ?_
    simp only [if_true]
    exact (Ev.now _).cast (by rw [powR, if_neg (by omega)])
  · simp only [if_neg h0]
    refine Ev.step (fun k => by rw [impl_PowerNat.j0]) ?_
    by_cases h1 : a > 1000
    · simp only [decide_eq_true h1, if_true]
      exact (Ev.now _).cast (by rw [powR, if_neg (by omega)])
    · obtain ⟨n, rfl⟩ := Int.eq_ofNat_of_zero_le (show 0 ≤ a by omega)
      simp only [decide_eq_false h1, Bool.false_eq_true, if_false, dg_one]
      exact (implPower_l n 0 (by omega)).cast (by rw [powR, if_pos (by omega)]; simp)

theorem eqInt64S_l (a b : List Int) (hl : a.length = b.length) (ha : a.length ≤ 9223372036854775807) (d : Nat) : ∀ (i : Nat), i + d = a.length → Ev (fun k => laws_eqInt64S.l0 k a b (i : Int)) (decide (a.drop i = b.drop i)) := by
  induction d with
  | zero =>
    intro i hi
    refine Ev.step (fun k => by rw [laws_eqInt64S.l0]) ?_
    simp only [if_neg (show ¬ (i : Int) < (a.length : Int) by omega)]
    rw [List.drop_of_length_le (show a.length ≤ i by omega), List.drop_of_length_le (show b.length ≤ i by omega)]
    simp only [decide_true]
    exact Ev.now _
  | succ d ih =>
    intro i hi
    refine Ev.step (fun k => by rw [laws_eqInt64S.l0]) ?_
    simp only [if_pos (show (i : Int) < (a.length : Int) by omega), if_pos (show 0 ≤ (i : Int) by omega), if_pos (show (i : Int) < (b.length : Int) by omega), wrap_succ (show i < 9223372036854775807 by omega)]
    rw [drop_rd a i (by omega), drop_rd b i (by omega)]
    by_cases e : rd a (i : Int) = rd b (i : Int)
    · simp only [if_pos e]
      exact (ih (i + 1) (by omega)).cast (by simp [e])
    · simp only [if_neg e]
      exact (Ev.now false).cast (by simp [e])
theorem eqInt64S_ev (a b : List Int) (ha : a.length ≤ 9223372036854775807) : Ev (fun k => laws_eqInt64S.f k a b) (decide (a = b)) := by
  simp only [laws_eqInt64S.f]
  by_cases hl : a.length = b.length
  · simp only [if_pos (show (a.length : Int) = (b.length : Int) by omega)]
    exact (eqInt64S_l a b hl ha a.length 0 (by omega)).cast (by simp)
  · simp only [if_neg (show ¬ (a.length : Int) = (b.length : Int) by omega)]
    exact (Ev.now false).cast (by have : a ≠ b := (fun e => hl (by rw [e])); simp [this])

theorem markInt64S_l (n : Nat) (m : Int) (h0 : 0 ≤ m) (hm : m + n ≤ 4611686018427387904) (d : Nat) : ∀ (i : Nat) (x : List Int), i + d = n → x.length = n → (∀ j, j < i → x[j]? = some (m + (j : Int))) → Ev (fun k => laws_markInt64S.l0 k x (m + (i : Int)) (i : Int)) (m + (n : Int), ups m n) := by
  induction d with
  | zero =>
    intro i x hi hx ht
    refine Ev.step (fun k => by rw [laws_markInt64S.l0]) ?_
    simp only [if_neg (show ¬ (i : Int) < (x.length : Int) by omega)]
    obtain rfl : x = ups m n := ext_at (by rw [hx, ups_len]) (fun j hj => by rw [ups_len] at hj; rw [ht j (by omega), ups_at hj])
    obtain rfl : i = n := by omega
    exact Ev.now _
  | succ d ih =>
    intro i x hi hx ht
    refine Ev.step (fun k => by rw [laws_markInt64S.l0]) ?_
    have hw : wrap64 (m + (i : Int) + 1) = m + ((i + 1 : Nat) : Int) := by unfold wrap64; omega
    simp only [if_pos (show (i : Int) < (x.length : Int) by omega), if_pos (show 0 ≤ (i : Int) by omega), wrap_succ (show i < 9223372036854775807 by omega), hw, Int.toNat_natCast]
    refine ih (i + 1) _ (by omega) (by simpa using hx) (fun j hj => ?_)
    rw [List.getElem?_set]
    by_cases e : i = j
    · subst e
      rw [if_pos rfl, if_pos (by omega)]
    · rw [if_neg e]; exact ht j (by omega)
theorem markInt64S_ev (l : List Int) (m : Int) (h0 : 0 ≤ m) (hm : m + l.length ≤ 4611686018427387904) : Ev (fun k => laws_markInt64S.f k l m) (m + (l.length : Int), ups m l.length) := by
  simp only [laws_markInt64S.f]
  have h := markInt64S_l l.length m h0 hm l.length 0 l (by omega) rfl (fun j hj => by omega)
  simpa using h
theorem heldInt64S_l (n : Nat) (m : Int) (h0 : 0 ≤ m) (hm : m + n ≤ 4611686018427387904) (d : Nat) : ∀ (i : Nat), i + d = n → Ev (fun k => laws_heldInt64S.l0 k (ups m n) (m + (i : Int)) (i : Int)) (m + (n : Int)) := by
  induction d with
  | zero =>
    intro i hi
    refine Ev.step (fun k => by rw [laws_heldInt64S.l0]) ?_
    simp only [ups_len, if_neg (show ¬ (i : Int) < (n : Int) by omega)]
    obtain rfl : i = n := by omega
    exact Ev.now _
  | succ d ih =>
    intro i hi
    refine Ev.step (fun k => by rw [laws_heldInt64S.l0]) ?_
    have hw : wrap64 (m + (i : Int) + 1) = m + ((i + 1 : Nat) : Int) := by unfold wrap64; omega
    simp only [ups_len, if_pos (show (i : Int) < (n : Int) by omega), if_pos (show 0 ≤ (i : Int) by omega), wrap_succ (show i < 9223372036854775807 by omega), hw, ups_rd (show i < n by omega), if_true]
    exact ih (i + 1) (by omega)
theorem heldInt64S_ev (n : Nat) (m : Int) (h0 : 0 ≤ m) (hm : m + n ≤ 4611686018427387904) : Ev (fun k => laws_heldInt64S.f k (ups m n) m) (m + (n : Int)) := by
  simp only [laws_heldInt64S.f]
  have h := heldInt64S_l n m h0 hm n 0 (by omega)
  simpa using h

theorem FnExactPowerNat : laws_FnExactPowerNat.Pure := by
  intro a ha
  refine Ev.rounds ?_
  simp only [laws_FnExactPowerNat.f]
  have hr : (powR a).1.length ≤ 100 := by
    unfold powR
    split
    · exact pw_len (by omega)
    · simp
  have e1 := specPower_ev a
  have e2 := implPower_ev a
  generalize powR a = R at hr e1 e2
  obtain ⟨r, ok⟩ := R
  refine Ev.bind e1 ?_
  refine Ev.bind e2 ?_
  refine Ev.bind (eqInt64S_ev r r (by simp at hr; omega)) ?_
  simp only [decide_true, if_true, bne_self_eq_false]
  refine Ev.step (fun k => by rw [laws_FnExactPowerNat.j0]) ?_
  simp only [Bool.false_eq_true, if_false]
  refine Ev.bind (markInt64S_ev r 1 (by omega) (by simp at hr; omega)) ?_
  refine Ev.bind (heldInt64S_ev r.length 1 (by omega) (by simp at hr; omega)) ?_
  simp only [if_neg (show ¬ (1 : Int) + (r.length : Int) < 0 by omega), if_true]
  refine Ev.bind e2 ?_
  refine Ev.bind (eqInt64S_ev r r (by simp at hr; omega)) ?_
  simp only [decide_true, if_true, bne_self_eq_false]
  refine Ev.step (fun k => by rw [laws_FnExactPowerNat.j1]) ?_
  simp only [Bool.false_eq_true, if_false]
  refine Ev.bind (heldInt64S_ev r.length 1 (by omega) (by simp at hr; omega)) ?_
  simp only [if_neg (show ¬ (1 : Int) + (r.length : Int) < 0 by omega), if_true]
  exact Ev.now _
end Go.Proofs.Ytfpobacomphnbaa.Pure
