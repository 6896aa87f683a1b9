/- BitsFor of the program and of the reference answer alike, for every list of whole numbers, and the argument is left as it was; no condition. -/
import Derived.Test.YtfpobacomphnbaaPFnExactBitsForx3
import Derived.Test.YtfpobacomphnbaaNt
set_option linter.unusedVariables false
set_option linter.unusedSimpArgs false
namespace Go.Proofs.Ytfpobacomphnbaa.Pure
open Go.RowKit Go.Proofs.Ytfpobacomphnbaa.PFnExactBitsFor Go.Proofs.YtfpobacomphnbaaW.PrintWords Go.Proofs.YtfpobacomphnbaaW.PrintLast Go.Proofs.YtfpobacomphnbaaW.PrintMore Go.Proofs.Ytfpobacomphnbaa.Bs

theorem l1In_eq (a b c : Int) : spec_l1In.f a b c = some (decide (b ≤ a) && decide (a ≤ c)) := by
  unfold spec_l1In.f
  by_cases h : a ≥ b
  · rw [if_pos h]; simp [show b ≤ a from h]
  · rw [if_neg h]; simp [show ¬ b ≤ a from h]
theorem specNatOk_l (x : List Int) (hx : x.length ≤ 4611686018427387904) (d : Nat) : ∀ i : Nat, i + d = x.length → Ev (fun k => spec_NatOk.l0 k x (i : Int)) (((x.drop i).all fun y => decide (0 ≤ y) && decide (y ≤ 9999)) && decide (x.length ≤ 100) && (x.isEmpty || rd x ((x.length : Int) - 1) != 0)) := by
  induction d with
  | zero =>
    intro i hi
    refine Ev.step (fun k => by rw [spec_NatOk.l0]) ?_
    simp only [if_neg (show ¬ (i : Int) < (x.length : Int) by omega)]
    rw [List.drop_of_length_le (show x.length ≤ i by omega)]
    by_cases h1 : x.length ≤ 100
    · simp only [if_pos (show (x.length : Int) ≤ 100 by omega)]
      by_cases h2 : x.length = 0
      · simp only [if_pos (show (x.length : Int) = 0 by omega)]
        exact (Ev.now true).cast (by simp [List.length_eq_zero_iff.1 h2])
      · have hw : wrap64 ((x.length : Int) - 1) = (x.length : Int) - 1 := wrap_id (by omega) (by omega)
        simp only [if_neg (show ¬ (x.length : Int) = 0 by omega), hw, if_pos (show 0 ≤ (x.length : Int) - 1 by omega), if_pos (show (x.length : Int) - 1 < (x.length : Int) by omega)]
        have hne : x.isEmpty = false := by cases x; simp at h2; rfl
        exact (Ev.now _).cast (by simp [h1, hne])
    · simp only [if_neg (show ¬ (x.length : Int) ≤ 100 by omega)]
      exact (Ev.now false).cast (by simp [h1])
  | succ d ih =>
    intro i hi
    refine Ev.step (fun k => by rw [spec_NatOk.l0]) ?_
    simp only [if_pos (show (i : Int) < (x.length : Int) by omega), if_pos (show 0 ≤ (i : Int) by omega), l1In_eq, Option.bind_some, wrap_succ (show i < 9223372036854775807 by omega)]
    rw [drop_rd x i (by omega), List.all_cons]
    by_cases h : (decide (0 ≤ rd x (i : Int)) && decide (rd x (i : Int) ≤ 9999)) = true
    · simp only [if_pos h]
      exact (ih (i + 1) (by omega)).cast (by rw [h]; simp)
    · simp only [if_neg h]
      exact (Ev.now false).cast (by rw [Bool.not_eq_true] at h; rw [h]; simp)
theorem specNatOk_ev (x : List Int) (hx : x.length ≤ 4611686018427387904) : Ev (fun k => spec_NatOk.f k x) (nok x) := by
  simp only [spec_NatOk.f]
  exact (specNatOk_l x hx x.length 0 (by omega)).cast (by simp [nok])

theorem l1Limb_eq (a : List Int) (i : Nat) : spec_l1Limb.f a (i : Int) = some (lm a (i : Int)) := by
  unfold spec_l1Limb.f lm
  split
  · rw [if_pos (by omega)]
  · rfl

theorem l1Trim_l (a : List Int) (ha : a.length < 17592186044416) (n : Nat) : n ≤ a.length → Ev (fun k => spec_l1Trim.l0 k a (n : Int)) (tr (a.take n)) := by
  induction n with
  | zero =>
    intro hn
    refine Ev.step (fun k => by rw [spec_l1Trim.l0]) ?_
    simp only [if_neg (show ¬ ((0 : Nat) : Int) > 0 by omega), Option.bind_some]
    have h1 : ((0 : Nat) : Int) ≤ (a.length : Int) := by omega
    simp only [if_pos (show 0 ≤ ((0 : Nat) : Int) by omega), if_pos h1, Int.toNat_natCast, List.take_zero, List.length_nil, if_pos (show 0 + 0 < 17592186044416 by omega), List.append_nil]
    exact (Ev.now _).cast (by simp [tr])
  | succ n ih =>
    intro hn
    refine Ev.step (fun k => by rw [spec_l1Trim.l0]) ?_
    simp only [if_pos (show ((n + 1 : Nat) : Int) > 0 by omega), wrap_pred (show n < 9223372036854775807 by omega), if_pos (show 0 ≤ (n : Int) by omega), if_pos (show (n : Int) < (a.length : Int) by omega)]
    by_cases e : rd a (n : Int) = 0
    · simp only [if_pos e]
      exact (ih (by omega)).cast (by rw [take_rd a n (by omega), e, tr_snoc0])
    · have hl : ([] : List Int).length + (a.take (n + 1)).length < 17592186044416 := by simp; omega
      simp only [if_neg e, Option.bind_some, if_pos (show 0 ≤ ((n + 1 : Nat) : Int) by omega), if_pos (show ((n + 1 : Nat) : Int) ≤ (a.length : Int) by omega), Int.toNat_natCast, if_pos hl]
      exact (Ev.now _).cast (by rw [take_rd a n (by omega), tr_snoc e]; simp)
theorem l1Trim_ev (a : List Int) (ha : a.length < 17592186044416) : Ev (fun k => spec_l1Trim.f k a) (tr a) := by
  simp only [spec_l1Trim.f]
  exact (l1Trim_l a ha a.length (Nat.le_refl _)).cast (by rw [List.take_length])
theorem l1Carry_end (x : List Int) (c : Nat) : ∀ (i : Nat) (out : List Int), x.length ≤ i → i + c ≤ 4611686018427387904 → out.length + c < 17592186044416 → Ev (fun k => spec_l1Carry.l0 k x out (c : Int) (i : Int)) (tr (out ++ dg c)) := by
  induction c using Nat.strongRecOn with
  | ind c ih =>
    intro i out hi hic ho
    refine Ev.step (fun k => by rw [spec_l1Carry.l0]) ?_
    simp only [if_neg (show ¬ (i : Int) < (x.length : Int) by omega)]
    rcases Nat.eq_zero_or_pos c with h | h
    · subst h
      simp only [if_neg (show ¬ ((0 : Nat) : Int) > 0 by omega)]
      refine Ev.bind (l1Trim_ev out (by omega)) ?_
      exact (Ev.now _).cast (by simp [dg_zero])
    · have h0 : lm x (i : Int) = 0 := by unfold lm; rw [if_neg (by omega)]
      simp only [if_pos (show (c : Int) > 0 by omega), l1Limb_eq, h0, Option.bind_some, if_pos (show out.length < 17592186044416 by omega), wrap_succ (show i < 9223372036854775807 by omega), Int.zero_add, wrap_id (show -9223372036854775808 ≤ (c : Int) by omega) (show (c : Int) ≤ 9223372036854775807 by omega), tmod4, tdiv4, wrap_id (show -9223372036854775808 ≤ ((c / 10000 : Nat) : Int) by omega) (show ((c / 10000 : Nat) : Int) ≤ 9223372036854775807 by omega)]
      refine (ih (c / 10000) (by omega) (i + 1) _ (by omega) (by omega) (by simp; omega)).cast ?_
      rw [dg_pos h]; simp
theorem l1Carry_l (x : List Int) (hx : ∀ y ∈ x, 0 ≤ y ∧ y ≤ 1000000000000) (hl : x.length ≤ 1000000000) (d : Nat) : ∀ (i c : Nat) (out : List Int), i + d = x.length → c ≤ 1000000000000 → out.length ≤ i → Ev (fun k => spec_l1Carry.l0 k x out (c : Int) (i : Int)) (tr (out ++ crr (x.drop i) c)) := by
  induction d with
  | zero =>
    intro i c out hi hc ho
    rw [List.drop_of_length_le (show x.length ≤ i by omega), crr]
    exact l1Carry_end x c i out (by omega) (by omega) (by omega)
  | succ d ih =>
    intro i c out hi hc ho
    refine Ev.step (fun k => by rw [spec_l1Carry.l0]) ?_
    have hm := hx (rd x (i : Int)) (by rw [rd_lt x i (by omega)]; exact List.getElem_mem _)
    have h0 : lm x (i : Int) = rd x (i : Int) := by unfold lm; rw [if_pos (by omega)]
    obtain ⟨y, hy⟩ := Int.eq_ofNat_of_zero_le hm.1
    have hs : wrap64 (rd x (i : Int) + (c : Int)) = ((y + c : Nat) : Int) := by rw [hy, wrap_id (by omega) (by omega)]; omega
    simp only [if_pos (show (i : Int) < (x.length : Int) by omega), l1Limb_eq, h0, Option.bind_some, if_pos (show out.length < 17592186044416 by omega), wrap_succ (show i < 9223372036854775807 by omega), hs, tmod4, tdiv4, wrap_id (show -9223372036854775808 ≤ (((y + c) / 10000 : Nat) : Int) by omega) (show (((y + c) / 10000 : Nat) : Int) ≤ 9223372036854775807 by omega)]
    refine (ih (i + 1) _ _ (by omega) (by omega) (by simp; omega)).cast ?_
    rw [drop_rd x i (by omega), crr, hy]; simp
theorem l1Carry_ev (x : List Int) (hx : ∀ y ∈ x, 0 ≤ y ∧ y ≤ 1000000000000) (hl : x.length ≤ 1000000000) : Ev (fun k => spec_l1Carry.f k x) (dg (nv x)) := by
  simp only [spec_l1Carry.f]
  refine (l1Carry_l x hx hl x.length 0 0 [] (by omega) (by omega) (by simp)).cast ?_
  rw [List.nil_append, List.drop_zero, tr_dg (crr_ok _ _), crr_nv, Nat.add_zero]

theorem dg_drop (m : Nat) (j : Nat) : (dg m).drop j = dg (m / 10000 ^ j) := by
  induction j with
  | zero => simp
  | succ j ih => rw [dg_step ih, Nat.pow_succ, Nat.div_div_eq_div_mul]
theorem dg_lm' (m j : Nat) : lm (dg m) (j : Int) = ((m / 10000 ^ j % 10000 : Nat) : Int) := dg_lm (dg_drop m j)
/-- -1, 0 or 1. -/
def cmpN (m n : Nat) : Int := if m < n then -1 else if m > n then 1 else 0
theorem up_lt {m n j : Nat} (h : m / 10000 ^ (j + 1) = n / 10000 ^ (j + 1)) (hl : m / 10000 ^ j % 10000 < n / 10000 ^ j % 10000) : m < n := by
  rcases Nat.lt_or_ge m n with h1 | h1
  · exact h1
  · exfalso
    have h2 : n / 10000 ^ j ≤ m / 10000 ^ j := Nat.div_le_div_right h1
    rw [Nat.pow_succ, ← Nat.div_div_eq_div_mul, ← Nat.div_div_eq_div_mul] at h
    omega
theorem up_eq {m n j : Nat} (h : m / 10000 ^ (j + 1) = n / 10000 ^ (j + 1)) (hl : m / 10000 ^ j % 10000 = n / 10000 ^ j % 10000) : m / 10000 ^ j = n / 10000 ^ j := by
  rw [Nat.pow_succ, ← Nat.div_div_eq_div_mul, ← Nat.div_div_eq_div_mul] at h
  omega
theorem top_zero {m j : Nat} (h : (dg m).length ≤ j) : m / 10000 ^ j = 0 := Nat.div_eq_of_lt (dg_len.1 h)
def cmpR (a b : List Int) : Int := if nok a = true ∧ nok b = true then cmpN (nv a) (nv b) else 2
theorem pw_len {j : Nat} (h : j ≤ 1000) : (dg (2 ^ j)).length ≤ 100 := by
  rw [dg_len]
  exact Nat.lt_of_le_of_lt (Nat.pow_le_pow_right (by omega) h) pow_room
theorem pw_nok {j : Nat} (h : j ≤ 1000) : nok (dg (2 ^ j)) = true := by rw [nok_dg]; exact decide_eq_true (pw_len h)
theorem pw_twice (j : Nat) : 2 ^ j + 2 ^ j = 2 ^ (j + 1) := by rw [Nat.pow_succ]; omega
theorem dg_one : ([1] : List Int) = dg (2 ^ 0) := by rw [dg_pos (by omega)]; simp [dg_zero]

theorem l1Less_l (m n : Nat) (hm : (dg m).length ≤ 1048576) (hl : (dg m).length = (dg n).length) (j : Nat) : j ≤ (dg m).length → m / 10000 ^ j = n / 10000 ^ j → Ev (fun k => spec_l1Less.l0 k (dg m) (dg n) ((j : Int) - 1)) (decide (m < n)) := by
  induction j with
  | zero =>
    intro hj h
    refine Ev.step (fun k => by rw [spec_l1Less.l0]) ?_
    simp only [if_neg (show ¬ ((0 : Nat) : Int) - 1 ≥ 0 by omega)]
    exact (Ev.now _).cast (by simp at h; subst h; simp)
  | succ j ih =>
    intro hj h
    refine Ev.step (fun k => by rw [spec_l1Less.l0]) ?_
    have e : ((j + 1 : Nat) : Int) - 1 = (j : Int) := by omega
    simp only [e, if_pos (show (j : Int) ≥ 0 by omega), if_pos (show 0 ≤ (j : Int) by omega), if_pos (show (j : Int) < ((dg m).length : Int) by omega), if_pos (show (j : Int) < ((dg n).length : Int) by omega), dg_rd (dg_drop m j), dg_rd (dg_drop n j)]
    by_cases h1 : m / 10000 ^ j % 10000 = n / 10000 ^ j % 10000
    · simp only [h1, if_true, wrap_id (show -9223372036854775808 ≤ (j : Int) - 1 by omega) (show (j : Int) - 1 ≤ 9223372036854775807 by omega)]
      exact ih (by omega) (up_eq h h1)
    · simp only [if_neg (show ¬ ((m / 10000 ^ j % 10000 : Nat) : Int) = ((n / 10000 ^ j % 10000 : Nat) : Int) by omega)]
      refine (Ev.now _).cast ?_
      rcases Nat.lt_or_gt_of_ne h1 with h2 | h2
      · rw [decide_eq_true (up_lt h h2), decide_eq_true (by omega)]
      · have := up_lt h.symm h2
        rw [decide_eq_false (by omega), decide_eq_false (by omega)]
theorem l1Less_ev (m n : Nat) (hm : (dg m).length ≤ 1048576) : Ev (fun k => spec_l1Less.f k (dg m) (dg n)) (decide (m < n)) := by
  simp only [spec_l1Less.f]
  by_cases hl : (dg m).length = (dg n).length
  · simp only [if_pos (show ((dg m).length : Int) = ((dg n).length : Int) by omega), wrap_id (show -9223372036854775808 ≤ ((dg m).length : Int) - 1 by omega) (show ((dg m).length : Int) - 1 ≤ 9223372036854775807 by omega)]
    exact l1Less_l m n hm hl _ (Nat.le_refl _) (by rw [top_zero (Nat.le_refl _), top_zero (by omega)])
  · simp only [if_neg (show ¬ ((dg m).length : Int) = ((dg n).length : Int) by omega)]
    refine (Ev.now _).cast ?_
    rcases Nat.lt_or_ge m n with h | h
    · have := dg_len_mono (Nat.le_of_lt h)
      rw [decide_eq_true h, decide_eq_true (by omega)]
    · have := dg_len_mono h
      rw [decide_eq_false (by omega), decide_eq_false (by omega)]
theorem l1Double_l (a : List Int) (hx : ∀ y ∈ a, 0 ≤ y ∧ y ≤ 10000) (hl : a.length ≤ 1048576) (d : Nat) : ∀ (i : Nat) (out : List Int), i + d = a.length → out = (a.take i).map (2 * ·) → Ev (fun k => spec_l1Double.l0 k a out (i : Int)) (dg (nv (a.map (2 * ·)))) := by
  induction d with
  | zero =>
    intro i out hi ho
    refine Ev.step (fun k => by rw [spec_l1Double.l0]) ?_
    rw [List.take_of_length_le (by omega)] at ho
    subst ho
    simp only [if_neg (show ¬ (i : Int) < (a.length : Int) by omega)]
    refine Ev.bind (l1Carry_ev _ (fun y hy => ?_) (by simp; omega)) ?_
    · obtain ⟨z, hz, rfl⟩ := List.mem_map.1 hy
      have := hx z hz
      omega
    · exact Ev.now _
  | succ d ih =>
    intro i out hi ho
    refine Ev.step (fun k => by rw [spec_l1Double.l0]) ?_
    have hlen : out.length = i := by subst ho; simp; omega
    have hm := hx (rd a (i : Int)) (by rw [rd_lt a i (by omega)]; exact List.getElem_mem _)
    simp only [if_pos (show (i : Int) < (a.length : Int) by omega), if_pos (show 0 ≤ (i : Int) by omega), if_pos (show out.length < 17592186044416 by omega), wrap_succ (show i < 9223372036854775807 by omega), wrap_id (show -9223372036854775808 ≤ 2 * rd a (i : Int) by omega) (show 2 * rd a (i : Int) ≤ 9223372036854775807 by omega)]
    exact ih (i + 1) _ (by omega) (by rw [take_rd a i (by omega), ho]; simp)
theorem nv_twice (l : List Int) (h : dok l) : nv (l.map (2 * ·)) = 2 * nv l := by
  induction l with
  | nil => rfl
  | cons x l ih =>
    rw [dok_cons] at h
    simp only [List.map_cons, nv, ih h.2]; omega
theorem l1Double_ev (m : Nat) (hm : (dg m).length ≤ 1048576) : Ev (fun k => spec_l1Double.f k (dg m)) (dg (m + m)) := by
  simp only [spec_l1Double.f]
  refine (l1Double_l (dg m) (fun y hy => by have := dg_ok m y hy; omega) hm (dg m).length 0 [] (by omega) (by simp)).cast ?_
  rw [nv_twice _ (dg_ok m), nv_dg, show 2 * m = m + m by omega]
theorem pw_len2 {j : Nat} (h : j ≤ 1331) : (dg (2 ^ j)).length ≤ 101 := by
  rw [dg_len]
  exact Nat.lt_of_le_of_lt (Nat.pow_le_pow_right (by omega) h) pow_room2
theorem bl_nok {n : Nat} (h : (dg n).length ≤ 100) : bl n ≤ 1330 := by
  rw [bl_le]
  exact Nat.le_trans (Nat.le_of_lt (dg_len.1 h)) pow_big
theorem specBits_l (n : Nat) (hn : (dg n).length ≤ 100) (d : Nat) : ∀ j : Nat, j + d = bl n → Ev (fun k => spec_BitsFor.l0 k (dg n) (dg (2 ^ j)) (j : Int)) (bl n : Int) := by
  have hb := bl_nok hn
  induction d with
  | zero =>
    intro j hj
    refine Ev.step (fun k => by rw [spec_BitsFor.l0]) ?_
    have h1 := pw_len2 (show j ≤ 1331 by omega)
    refine Ev.bind (l1Less_ev _ _ (by omega)) ?_
    have h2 : n ≤ 2 ^ j := (bl_le j n).1 (by omega)
    simp only [decide_eq_false (show ¬ 2 ^ j < n by omega), Bool.false_eq_true, if_false]
    obtain rfl : j = bl n := by omega
    exact Ev.now _
  | succ d ih =>
    intro j hj
    refine Ev.step (fun k => by rw [spec_BitsFor.l0]) ?_
    have h1 := pw_len2 (show j ≤ 1331 by omega)
    refine Ev.bind (l1Less_ev _ _ (by omega)) ?_
    have h2 : ¬ n ≤ 2 ^ j := fun h => by have := (bl_le j n).2 h; omega
    simp only [decide_eq_true (show 2 ^ j < n by omega), if_true]
    refine Ev.bind (l1Double_ev (2 ^ j) (by omega)) ?_
    rw [pw_twice, wrap_succ (show j < 9223372036854775807 by omega)]
    exact ih (j + 1) (by omega)
def bitsR (a : List Int) : Int := if nok a = true then (bl (nv a) : Int) else -1
theorem specBits_ev (a : List Int) (ha : a.length ≤ 1048576) : Ev (fun k => spec_BitsFor.f k a) (bitsR a) := by
  simp only [spec_BitsFor.f]
  refine Ev.bind (specNatOk_ev a (by omega)) ?_
  by_cases h : nok a = true
  · simp only [if_pos h, dg_one]
    obtain ⟨n, rfl, hn⟩ := nok_ex h
    exact (specBits_l n hn (bl n) 0 (by omega)).cast (by rw [bitsR, if_pos h, nv_dg])
  · simp only [if_neg h]
    exact (Ev.now _).cast (by rw [bitsR, if_neg h])

theorem implNatOk_l (x : List Int) (hx : x.length ≤ 100) (d : Nat) : ∀ i : Nat, i + d = x.length → Ev (fun k => impl_NatOk.l0 k x x (x.length : Int) (i : Int)) (((x.drop i).all fun y => decide (0 ≤ y) && decide (y ≤ 9999)) && (x.isEmpty || rd x ((x.length : Int) - 1) != 0)) := by
  induction d with
  | zero =>
    intro i hi
    refine Ev.step (fun k => by rw [impl_NatOk.l0]) ?_
    simp only [if_neg (show ¬ (i : Int) < (x.length : Int) by omega)]
    rw [List.drop_of_length_le (show x.length ≤ i by omega)]
    by_cases h2 : x.length = 0
    · simp only [if_pos (show (x.length : Int) = 0 by omega)]
      exact (Ev.now true).cast (by simp [List.length_eq_zero_iff.1 h2])
    · have hw : wrap64 ((x.length : Int) - 1) = (x.length : Int) - 1 := wrap_id (by omega) (by omega)
      simp only [if_neg (show ¬ (x.length : Int) = 0 by omega), hw, if_pos (show 0 ≤ (x.length : Int) - 1 by omega), if_pos (show (x.length : Int) - 1 < (x.length : Int) by omega)]
      have hne : x.isEmpty = false := by cases x; simp at h2; rfl
      exact (Ev.now _).cast (by simp [hne])
  | succ d ih =>
    intro i hi
    refine Ev.step (fun k => by rw [impl_NatOk.l0]) ?_
    simp only [if_pos (show (i : Int) < (x.length : Int) by omega), if_pos (show 0 ≤ (i : Int) by omega), wrap_succ (show i < 9223372036854775807 by omega)]
    rw [drop_rd x i (by omega), List.all_cons]
    by_cases h : rd x (i : Int) < 0
    · simp only [if_pos h]
      exact (Ev.now false).cast (by rw [decide_eq_false (show ¬ 0 ≤ rd x (i : Int) by omega)]; simp)
    · simp only [if_neg h]
      by_cases h' : rd x (i : Int) ≥ 10000
      · simp only [if_pos h']
        exact (Ev.now false).cast (by rw [decide_eq_false (show ¬ rd x (i : Int) ≤ 9999 by omega)]; simp)
      · simp only [if_neg h']
        exact (ih (i + 1) (by omega)).cast (by rw [decide_eq_true (show 0 ≤ rd x (i : Int) by omega), decide_eq_true (show rd x (i : Int) ≤ 9999 by omega)]; simp)
theorem implNatOk_ev (x : List Int) : Ev (fun k => impl_NatOk.f k x) (nok x) := by
  simp only [impl_NatOk.f]
  by_cases h : x.length ≤ 100
  · simp only [if_neg (show ¬ (x.length : Int) > 100 by omega)]
    exact (implNatOk_l x h x.length 0 (by omega)).cast (by simp [nok, h])
  · simp only [if_pos (show (x.length : Int) > 100 by omega)]
    exact (Ev.now false).cast (by simp [nok, h])

theorem place_eq (a : List Int) (i : Nat) : impl_great_place.f a (i : Int) = some (lm a (i : Int)) := by
  unfold impl_great_place.f lm
  split
  · rw [if_pos (by omega)]
  · rfl

theorem plus_l (a b : List Int) (ha : a.length ≤ 1048576) (hb : b.length ≤ 1048576) (d : Nat) : ∀ (i m n c : Nat) (out : List Int), m + n + c ≤ d → a.drop i = dg m → b.drop i = dg n → c ≤ 1 → i ≤ 1048576 + 1 → out.length = i → (i ≤ 1048576 ∨ c = 0) → Ev (fun k => impl_great_plus.l0 k a b out (c : Int) (i : Int)) (out ++ dg (m + n + c)) := by
  induction d using Nat.strongRecOn with
  | ind d ih =>
    intro i m n c out hd hm hn hc hi ho hic
    have hstep : Ev (fun k => impl_great_plus.j1 k a b out (c : Int) (i : Int) (decide (0 < m ∨ 0 < n ∨ 0 < c))) (out ++ dg (m + n + c)) := by
      refine Ev.step (fun k => by rw [impl_great_plus.j1]) ?_
      by_cases h : 0 < m ∨ 0 < n ∨ 0 < c
      · have hil : i ≤ 1048576 := by rw [← dg_lt hm, ← dg_lt hn] at h; omega
        have hs : wrap64 ((wrap64 (((m % 10000 : Nat) : Int) + ((n % 10000 : Nat) : Int))) + (c : Int)) = ((m % 10000 + n % 10000 + c : Nat) : Int) := by rw [wrap_id (x := ((m % 10000 : Nat) : Int) + ((n % 10000 : Nat) : Int)) (by omega) (by omega), wrap_id (by omega) (by omega)]; omega
        simp only [decide_eq_true h, if_true, place_eq, dg_lm hm, dg_lm hn, Option.bind_some, if_pos (show out.length < 17592186044416 by omega), wrap_succ (show i < 9223372036854775807 by omega), hs, tmod4, tdiv4, wrap_id (show -9223372036854775808 ≤ (((m % 10000 + n % 10000 + c) / 10000 : Nat) : Int) by omega) (show (((m % 10000 + n % 10000 + c) / 10000 : Nat) : Int) ≤ 9223372036854775807 by omega)]
        refine (ih (m / 10000 + n / 10000 + (m % 10000 + n % 10000 + c) / 10000) (by omega) (i + 1) _ _ _ _ (Nat.le_refl _) (dg_step hm) (dg_step hn) (by omega) (by omega) (by simp; omega) ?_).cast ?_
        · rcases Nat.lt_or_ge i 1048576 with h1 | h1
          · left; omega
          · right
            have e1 : m = 0 := by have := dg_lt hm; omega
            have e2 : n = 0 := by have := dg_lt hn; omega
            subst e1; subst e2; omega
        · have e1 : (m + n + c) % 10000 = (m % 10000 + n % 10000 + c) % 10000 := by omega
          have e2 : (m + n + c) / 10000 = m / 10000 + n / 10000 + (m % 10000 + n % 10000 + c) / 10000 := by omega
          rw [dg_pos (n := m + n + c) (by omega), e1, e2]; simp
      · simp only [decide_eq_false h, Bool.false_eq_true, if_false]
        obtain rfl : m = 0 := by omega
        obtain rfl : n = 0 := by omega
        obtain rfl : c = 0 := by omega
        exact (Ev.now _).cast (by simp [dg_zero])
    refine Ev.step (fun k => by rw [impl_great_plus.l0]) ?_
    by_cases h : (i : Int) < (a.length : Int)
    · simp only [if_pos h]
      have h' : 0 < m := (dg_lt hm).1 (by omega)
      rw [decide_eq_true (Or.inl h')] at hstep
      exact hstep
    · simp only [if_neg h]
      have h' : ¬ 0 < m := fun e => h (by have := (dg_lt hm).2 e; omega)
      by_cases g : (i : Int) < (b.length : Int)
      · simp only [if_pos g]
        have g' : 0 < n := (dg_lt hn).1 (by omega)
        rw [decide_eq_true (Or.inr (Or.inl g'))] at hstep
        exact hstep
      · simp only [if_neg g]
        have g' : ¬ 0 < n := fun e => g (by have := (dg_lt hn).2 e; omega)
        have e : decide (0 < m ∨ 0 < n ∨ 0 < c) = decide ((c : Int) > 0) := by
          simp only [decide_eq_decide]; omega
        rw [e] at hstep
        exact hstep
theorem plus_ev (m n : Nat) (hm : (dg m).length ≤ 1048576) (hn : (dg n).length ≤ 1048576) : Ev (fun k => impl_great_plus.f k (dg m) (dg n)) (dg (m + n)) := by
  simp only [impl_great_plus.f]
  exact (plus_l (dg m) (dg n) hm hn (m + n + 0) 0 m n 0 [] (Nat.le_refl _) rfl rfl (by omega) (by omega) rfl (by omega)).cast (by simp)

theorem against_l (m n : Nat) (j : Nat) : j ≤ 1048577 → m / 10000 ^ j = n / 10000 ^ j → Ev (fun k => impl_great_against.l0 k (dg m) (dg n) ((j : Int) - 1)) (cmpN m n) := by
  induction j with
  | zero =>
    intro hj h
    refine Ev.step (fun k => by rw [impl_great_against.l0]) ?_
    simp only [if_neg (show ¬ ((0 : Nat) : Int) - 1 ≥ 0 by omega)]
    exact (Ev.now _).cast (by simp at h; subst h; simp [cmpN])
  | succ j ih =>
    intro hj h
    refine Ev.step (fun k => by rw [impl_great_against.l0]) ?_
    have e : ((j + 1 : Nat) : Int) - 1 = (j : Int) := by omega
    simp only [e, if_pos (show (j : Int) ≥ 0 by omega), place_eq, dg_lm', Option.bind_some]
    by_cases h1 : m / 10000 ^ j % 10000 < n / 10000 ^ j % 10000
    · simp only [if_pos (show ((m / 10000 ^ j % 10000 : Nat) : Int) < ((n / 10000 ^ j % 10000 : Nat) : Int) by omega)]
      exact (Ev.now _).cast (by rw [cmpN, if_pos (up_lt h h1)])
    · simp only [if_neg (show ¬ ((m / 10000 ^ j % 10000 : Nat) : Int) < ((n / 10000 ^ j % 10000 : Nat) : Int) by omega)]
      by_cases h2 : n / 10000 ^ j % 10000 < m / 10000 ^ j % 10000
      · simp only [if_pos (show ((m / 10000 ^ j % 10000 : Nat) : Int) > ((n / 10000 ^ j % 10000 : Nat) : Int) by omega)]
        have := up_lt h.symm h2
        exact (Ev.now _).cast (by rw [cmpN, if_neg (by omega), if_pos this])
      · simp only [if_neg (show ¬ ((m / 10000 ^ j % 10000 : Nat) : Int) > ((n / 10000 ^ j % 10000 : Nat) : Int) by omega), wrap_id (show -9223372036854775808 ≤ (j : Int) - 1 by omega) (show (j : Int) - 1 ≤ 9223372036854775807 by omega)]
        exact ih (by omega) (up_eq h (by omega))
theorem against_ev (m n : Nat) (hm : (dg m).length ≤ 1048576) (hn : (dg n).length ≤ 1048576) : Ev (fun k => impl_great_against.f k (dg m) (dg n)) (cmpN m n) := by
  simp only [impl_great_against.f]
  obtain ⟨j, hj, h1, h2, h3⟩ : ∃ j : Nat, mx ((dg m).length : Int) ((dg n).length : Int) = (j : Int) ∧ (dg m).length ≤ j ∧ (dg n).length ≤ j ∧ j ≤ 1048576 := by
    unfold mx
    split
    · exact ⟨_, rfl, by omega, by omega, by omega⟩
    · exact ⟨_, rfl, by omega, by omega, by omega⟩
  simp only [hj, wrap_id (show -9223372036854775808 ≤ (j : Int) - 1 by omega) (show (j : Int) - 1 ≤ 9223372036854775807 by omega)]
  exact against_l m n j (by omega) (by rw [top_zero h1, top_zero h2])

theorem implBits_l (n : Nat) (hn : (dg n).length ≤ 100) (d : Nat) : ∀ j : Nat, j + d = bl n → Ev (fun k => impl_BitsFor.l0 k (dg n) (j : Int) (dg (2 ^ j))) (bl n : Int) := by
  have hb := bl_nok hn
  induction d with
  | zero =>
    intro j hj
    refine Ev.step (fun k => by rw [impl_BitsFor.l0]) ?_
    have h1 := pw_len2 (show j ≤ 1331 by omega)
    refine Ev.bind (against_ev _ _ (by omega) (by omega)) ?_
    have h2 : n ≤ 2 ^ j := (bl_le j n).1 (by omega)
    have e : ¬ cmpN (2 ^ j) n < 0 := by unfold cmpN; rw [if_neg (by omega)]; split <;> omega
    simp only [if_neg e]
    obtain rfl : j = bl n := by omega
    exact Ev.now _
  | succ d ih =>
    intro j hj
    refine Ev.step (fun k => by rw [impl_BitsFor.l0]) ?_
    have h1 := pw_len2 (show j ≤ 1331 by omega)
    refine Ev.bind (against_ev _ _ (by omega) (by omega)) ?_
    have h2 : ¬ n ≤ 2 ^ j := fun h => by have := (bl_le j n).2 h; omega
    have e : cmpN (2 ^ j) n < 0 := by unfold cmpN; rw [if_pos (by omega)]; omega
    simp only [if_pos e]
    refine Ev.bind (plus_ev (2 ^ j) (2 ^ j) (by omega) (by omega)) ?_
    rw [pw_twice, wrap_succ (show j < 9223372036854775807 by omega)]
    exact ih (j + 1) (by omega)
theorem implBits_ev (a : List Int) : Ev (fun k => impl_BitsFor.f k a) (bitsR a) := by
  simp only [impl_BitsFor.f]
  refine Ev.bind (implNatOk_ev a) ?_
  by_cases h : nok a = true
  · simp only [if_pos h, dg_one]
    obtain ⟨n, rfl, hn⟩ := nok_ex h
    exact (implBits_l n hn (bl n) 0 (by omega)).cast (by rw [bitsR, if_pos h, nv_dg])
  · simp only [if_neg h]
    exact (Ev.now _).cast (by rw [bitsR, if_neg h])

theorem toInt64S_l (l : List Int) (hl : l.length ≤ 1048576) (d : Nat) : ∀ (i : Nat) (x : List Int), i + d = l.length → x.length = l.length → (∀ j, j < i → x[j]? = l[j]?) → Ev (fun k => laws_toInt64S.l0 k l x (i : Int)) l := by
  induction d with
  | zero =>
    intro i x hi hx ht
    refine Ev.step (fun k => by rw [laws_toInt64S.l0]) ?_
    simp only [if_neg (show ¬ (i : Int) < (l.length : Int) by omega)]
    obtain rfl : x = l := ext_at hx (fun j hj => ht j (by omega))
    exact Ev.now _
  | succ d ih =>
    intro i x hi hx ht
    refine Ev.step (fun k => by rw [laws_toInt64S.l0]) ?_
    simp only [if_pos (show (i : Int) < (l.length : Int) by omega), if_pos (show 0 ≤ (i : Int) by omega), if_pos (show (i : Int) < (x.length : Int) by omega), wrap_succ (show i < 9223372036854775807 by omega), Int.toNat_natCast]
    refine ih (i + 1) _ (by omega) (by simpa using hx) (fun j hj => ?_)
    rw [List.getElem?_set]
    by_cases e : i = j
    · subst e
      rw [if_pos rfl, if_pos (by omega), rd_lt l i (by omega), List.getElem?_eq_getElem (by omega)]
    · rw [if_neg e]; exact ht j (by omega)
theorem toInt64S_ev (l : List Int) (hl : l.length ≤ 1048576) : Ev (fun k => laws_toInt64S.f k l) l := by
  simp only [laws_toInt64S.f, if_pos (show 0 ≤ (l.length : Int) by omega), Int.toNat_natCast, if_pos (show l.length ≤ 35184372088832 by omega)]
  exact toInt64S_l l hl l.length 0 _ (by omega) (by simp) (fun j hj => by omega)


theorem eqInt64S_l (a b : List Int) (hl : a.length = b.length) (ha : a.length ≤ 9223372036854775807) (d : Nat) : ∀ (i : Nat), i + d = a.length → Ev (fun k => laws_eqInt64S.l0 k a b (i : Int)) (decide (a.drop i = b.drop i)) := by
  induction d with
  | zero =>
    intro i hi
    refine Ev.step (fun k => by rw [laws_eqInt64S.l0]) ?_
    simp only [if_neg (show ¬ (i : Int) < (a.length : Int) by omega)]
    rw [List.drop_of_length_le (show a.length ≤ i by omega), List.drop_of_length_le (show b.length ≤ i by omega)]
    simp only [decide_true]
    exact Ev.now _
  | succ d ih =>
    intro i hi
    refine Ev.step (fun k => by rw [laws_eqInt64S.l0]) ?_
    simp only [if_pos (show (i : Int) < (a.length : Int) by omega), if_pos (show 0 ≤ (i : Int) by omega), if_pos (show (i : Int) < (b.length : Int) by omega), wrap_succ (show i < 9223372036854775807 by omega)]
    rw [drop_rd a i (by omega), drop_rd b i (by omega)]
    by_cases e : rd a (i : Int) = rd b (i : Int)
    · simp only [if_pos e]
      exact (ih (i + 1) (by omega)).cast (by simp [e])
    · simp only [if_neg e]
      exact (Ev.now false).cast (by simp [e])
theorem eqInt64S_ev (a b : List Int) (ha : a.length ≤ 9223372036854775807) : Ev (fun k => laws_eqInt64S.f k a b) (decide (a = b)) := by
  simp only [laws_eqInt64S.f]
  by_cases hl : a.length = b.length
  · simp only [if_pos (show (a.length : Int) = (b.length : Int) by omega)]
    exact (eqInt64S_l a b hl ha a.length 0 (by omega)).cast (by simp)
  · simp only [if_neg (show ¬ (a.length : Int) = (b.length : Int) by omega)]
    exact (Ev.now false).cast (by have : a ≠ b := (fun e => hl (by rw [e])); simp [this])

def Want_FnExactBitsFor : Prop := ∀ (l0 : List (Int)), (l0.length ≤ 9223372036854775807 ∧ ∀ u1 ∈ l0, (Lit.int .i64 u1).wf = true) → ∃ k, laws_FnExactBitsFor.f k l0 = some true
theorem FnExactBitsFor : Want_FnExactBitsFor := by
  intro a hq
  refine Ev.rounds ?_
  simp only [laws_FnExactBitsFor.f]
  by_cases h : (a.length : Int) > 1048576
  · simp only [if_pos h]; exact Ev.now _
  · simp only [if_neg h]
    have hl : a.length ≤ 1048576 := by omega
    refine Ev.bind (toInt64S_ev a hl) ?_
    refine Ev.bind (specBits_ev a hl) ?_
    refine Ev.bind (toInt64S_ev a hl) ?_
    refine Ev.bind (implBits_ev a) ?_
    simp only [if_true]
    refine Ev.bind (toInt64S_ev a hl) ?_
    refine Ev.bind (eqInt64S_ev a a (by omega)) ?_
    simp only [decide_true, if_true]
    exact Ev.now _
end Go.Proofs.Ytfpobacomphnbaa.Pure
