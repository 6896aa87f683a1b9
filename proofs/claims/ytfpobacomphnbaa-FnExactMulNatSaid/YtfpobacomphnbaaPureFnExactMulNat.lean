/- MulNat of the program and of the reference answer alike, for all lists of whole numbers, in new memory each time, and the arguments are left as they were; no condition. -/
import Derived.Test.YtfpobacomphnbaaPFnExactMulNatx4
import Derived.Test.YtfpobacomphnbaaNt
set_option linter.unusedVariables false
set_option linter.unusedSimpArgs false
namespace Go.Proofs.Ytfpobacomphnbaa.Pure
open Go.RowKit Go.Proofs.Ytfpobacomphnbaa.PFnExactMulNat Go.Proofs.YtfpobacomphnbaaW.PrintWords Go.Proofs.YtfpobacomphnbaaW.PrintLast Go.Proofs.YtfpobacomphnbaaW.PrintMore Go.Proofs.Ytfpobacomphnbaa.Bs

theorem l1In_eq (a b c : Int) : spec_l1In.f a b c = some (decide (b ≤ a) && decide (a ≤ c)) := by
  unfold spec_l1In.f
  by_cases h : a ≥ b
  · rw [if_pos h]; simp [show b ≤ a from h]
  · rw [if_neg h]; simp [show ¬ b ≤ a from h]
theorem specNatOk_l (x : List Int) (hx : x.length ≤ 4611686018427387904) (d : Nat) : ∀ i : Nat, i + d = x.length → Ev (fun k => spec_NatOk.l0 k x (i : Int)) (((x.drop i).all fun y => decide (0 ≤ y) && decide (y ≤ 9999)) && decide (x.length ≤ 100) && (x.isEmpty || rd x ((x.length : Int) - 1) != 0)) := by
  induction d with
  | zero =>
    intro i hi
    refine Ev.step (fun k => by rw [spec_NatOk.l0]) ?_
    simp only [if_neg (show ¬ (i : Int) < (x.length : Int) by omega)]
    rw [List.drop_of_length_le (show x.length ≤ i by omega)]
    by_cases h1 : x.length ≤ 100
    · simp only [if_pos (show (x.length : Int) ≤ 100 by omega)]
      by_cases h2 : x.length = 0
      · simp only [if_pos (show (x.length : Int) = 0 by omega)]
        exact (Ev.now true).cast (by simp [List.length_eq_zero_iff.1 h2])
      · have hw : wrap64 ((x.length : Int) - 1) = (x.length : Int) - 1 := wrap_id (by omega) (by omega)
        simp only [if_neg (show ¬ (x.length : Int) = 0 by omega), hw, if_pos (show 0 ≤ (x.length : Int) - 1 by omega), if_pos (show (x.length : Int) - 1 < (x.length : Int) by omega)]
        have hne : x.isEmpty = false := by cases x; simp at h2; rfl
        exact (Ev.now _).cast (by simp [h1, hne])
    · simp only [if_neg (show ¬ (x.length : Int) ≤ 100 by omega)]
      exact (Ev.now false).cast (by simp [h1])
  | succ d ih =>
    intro i hi
    refine Ev.step (fun k => by rw [spec_NatOk.l0]) ?_
    simp only [if_pos (show (i : Int) < (x.length : Int) by omega), if_pos (show 0 ≤ (i : Int) by omega), l1In_eq, Option.bind_some, wrap_succ (show i < 9223372036854775807 by omega)]
    rw [drop_rd x i (by omega), List.all_cons]
    by_cases h : (decide (0 ≤ rd x (i : Int)) && decide (rd x (i : Int) ≤ 9999)) = true
    · simp only [if_pos h]
      exact (ih (i + 1) (by omega)).cast (by rw [h]; simp)
    · simp only [if_neg h]
      exact (Ev.now false).cast (by rw [Bool.not_eq_true] at h; rw [h]; simp)
theorem specNatOk_ev (x : List Int) (hx : x.length ≤ 4611686018427387904) : Ev (fun k => spec_NatOk.f k x) (nok x) := by
  simp only [spec_NatOk.f]
  exact (specNatOk_l x hx x.length 0 (by omega)).cast (by simp [nok])

theorem l1Both_ev (a b : List Int) (ha : a.length ≤ 1048576) (hb : b.length ≤ 1048576) : Ev (fun k => spec_l1Both.f k a b) (nok a && nok b) := by
  simp only [spec_l1Both.f]
  refine Ev.bind (specNatOk_ev a (by omega)) ?_
  by_cases h : nok a = true
  · simp only [h, if_true]
    refine Ev.bind (specNatOk_ev b (by omega)) ?_
    exact (Ev.now _).cast (by simp)
  · rw [Bool.not_eq_true] at h
    simp only [h, Bool.false_eq_true, if_false]
    exact (Ev.now _).cast (by simp)

theorem l1Limb_eq (a : List Int) (i : Nat) : spec_l1Limb.f a (i : Int) = some (lm a (i : Int)) := by
  unfold spec_l1Limb.f lm
  split
  · rw [if_pos (by omega)]
  · rfl

theorem l1Trim_l (a : List Int) (ha : a.length < 17592186044416) (n : Nat) : n ≤ a.length → Ev (fun k => spec_l1Trim.l0 k a (n : Int)) (tr (a.take n)) := by
  induction n with
  | zero =>
    intro hn
    refine Ev.step (fun k => by rw [spec_l1Trim.l0]) ?_
    simp only [if_neg (show ¬ ((0 : Nat) : Int) > 0 by omega), Option.bind_some]
    have h1 : ((0 : Nat) : Int) ≤ (a.length : Int) := by omega
    simp only [if_pos (show 0 ≤ ((0 : Nat) : Int) by omega), if_pos h1, Int.toNat_natCast, List.take_zero, List.length_nil, if_pos (show 0 + 0 < 17592186044416 by omega), List.append_nil]
    exact (Ev.now _).cast (by simp [tr])
  | succ n ih =>
    intro hn
    refine Ev.step (fun k => by rw [spec_l1Trim.l0]) ?_
    simp only [if_pos (show ((n + 1 : Nat) : Int) > 0 by omega), wrap_pred (show n < 9223372036854775807 by omega), if_pos (show 0 ≤ (n : Int) by omega), if_pos (show (n : Int) < (a.length : Int) by omega)]
    by_cases e : rd a (n : Int) = 0
    · simp only [if_pos e]
      exact (ih (by omega)).cast (by rw [take_rd a n (by omega), e, tr_snoc0])
    · have hl : ([] : List Int).length + (a.take (n + 1)).length < 17592186044416 := by simp; omega
      simp only [if_neg e, Option.bind_some, if_pos (show 0 ≤ ((n + 1 : Nat) : Int) by omega), if_pos (show ((n + 1 : Nat) : Int) ≤ (a.length : Int) by omega), Int.toNat_natCast, if_pos hl]
      exact (Ev.now _).cast (by rw [take_rd a n (by omega), tr_snoc e]; simp)
theorem l1Trim_ev (a : List Int) (ha : a.length < 17592186044416) : Ev (fun k => spec_l1Trim.f k a) (tr a) := by
  simp only [spec_l1Trim.f]
  exact (l1Trim_l a ha a.length (Nat.le_refl _)).cast (by rw [List.take_length])

theorem l1Carry_end (x : List Int) (c : Nat) : ∀ (i : Nat) (out : List Int), x.length ≤ i → i + c ≤ 4611686018427387904 → out.length + c < 17592186044416 → Ev (fun k => spec_l1Carry.l0 k x out (c : Int) (i : Int)) (tr (out ++ dg c)) := by
  induction c using Nat.strongRecOn with
  | ind c ih =>
    intro i out hi hic ho
    refine Ev.step (fun k => by rw [spec_l1Carry.l0]) ?_
    simp only [if_neg (show ¬ (i : Int) < (x.length : Int) by omega)]
    rcases Nat.eq_zero_or_pos c with h | h
    · subst h
      simp only [if_neg (show ¬ ((0 : Nat) : Int) > 0 by omega)]
      refine Ev.bind (l1Trim_ev out (by omega)) ?_
      exact (Ev.now _).cast (by simp [dg_zero])
    · have h0 : lm x (i : Int) = 0 := by unfold lm; rw [if_neg (by omega)]
      simp only [if_pos (show (c : Int) > 0 by omega), l1Limb_eq, h0, Option.bind_some, if_pos (show out.length < 17592186044416 by omega), wrap_succ (show i < 9223372036854775807 by omega), Int.zero_add, wrap_id (show -9223372036854775808 ≤ (c : Int) by omega) (show (c : Int) ≤ 9223372036854775807 by omega), tmod4, tdiv4, wrap_id (show -9223372036854775808 ≤ ((c / 10000 : Nat) : Int) by omega) (show ((c / 10000 : Nat) : Int) ≤ 9223372036854775807 by omega)]
      refine (ih (c / 10000) (by omega) (i + 1) _ (by omega) (by omega) (by simp; omega)).cast ?_
      rw [dg_pos h]; simp
theorem l1Carry_l (x : List Int) (hx : ∀ y ∈ x, 0 ≤ y ∧ y ≤ 1000000000000) (hl : x.length ≤ 1000000000) (d : Nat) : ∀ (i c : Nat) (out : List Int), i + d = x.length → c ≤ 1000000000000 → out.length ≤ i → Ev (fun k => spec_l1Carry.l0 k x out (c : Int) (i : Int)) (tr (out ++ crr (x.drop i) c)) := by
  induction d with
  | zero =>
    intro i c out hi hc ho
    rw [List.drop_of_length_le (show x.length ≤ i by omega), crr]
    exact l1Carry_end x c i out (by omega) (by omega) (by omega)
  | succ d ih =>
    intro i c out hi hc ho
    refine Ev.step (fun k => by rw [spec_l1Carry.l0]) ?_
    have hm := hx (rd x (i : Int)) (by rw [rd_lt x i (by omega)]; exact List.getElem_mem _)
    have h0 : lm x (i : Int) = rd x (i : Int) := by unfold lm; rw [if_pos (by omega)]
    obtain ⟨y, hy⟩ := Int.eq_ofNat_of_zero_le hm.1
    have hs : wrap64 (rd x (i : Int) + (c : Int)) = ((y + c : Nat) : Int) := by rw [hy, wrap_id (by omega) (by omega)]; omega
    simp only [if_pos (show (i : Int) < (x.length : Int) by omega), l1Limb_eq, h0, Option.bind_some, if_pos (show out.length < 17592186044416 by omega), wrap_succ (show i < 9223372036854775807 by omega), hs, tmod4, tdiv4, wrap_id (show -9223372036854775808 ≤ (((y + c) / 10000 : Nat) : Int) by omega) (show (((y + c) / 10000 : Nat) : Int) ≤ 9223372036854775807 by omega)]
    refine (ih (i + 1) _ _ (by omega) (by omega) (by simp; omega)).cast ?_
    rw [drop_rd x i (by omega), crr, hy]; simp
theorem l1Carry_ev (x : List Int) (hx : ∀ y ∈ x, 0 ≤ y ∧ y ≤ 1000000000000) (hl : x.length ≤ 1000000000) : Ev (fun k => spec_l1Carry.f k x) (dg (nv x)) := by
  simp only [spec_l1Carry.f]
  refine (l1Carry_l x hx hl x.length 0 0 [] (by omega) (by omega) (by simp)).cast ?_
  rw [List.nil_append, List.drop_zero, tr_dg (crr_ok _ _), crr_nv, Nat.add_zero]

theorem dg_drop (m : Nat) (j : Nat) : (dg m).drop j = dg (m / 10000 ^ j) := by
  induction j with
  | zero => simp
  | succ j ih => rw [dg_step ih, Nat.pow_succ, Nat.div_div_eq_div_mul]
theorem dg_lm' (m j : Nat) : lm (dg m) (j : Int) = ((m / 10000 ^ j % 10000 : Nat) : Int) := dg_lm (dg_drop m j)
/-- -1, 0 or 1. -/
def cmpN (m n : Nat) : Int := if m < n then -1 else if m > n then 1 else 0
theorem up_lt {m n j : Nat} (h : m / 10000 ^ (j + 1) = n / 10000 ^ (j + 1)) (hl : m / 10000 ^ j % 10000 < n / 10000 ^ j % 10000) : m < n := by
  rcases Nat.lt_or_ge m n with h1 | h1
  · exact h1
  · exfalso
    have h2 : n / 10000 ^ j ≤ m / 10000 ^ j := Nat.div_le_div_right h1
    rw [Nat.pow_succ, ← Nat.div_div_eq_div_mul, ← Nat.div_div_eq_div_mul] at h
    omega
theorem up_eq {m n j : Nat} (h : m / 10000 ^ (j + 1) = n / 10000 ^ (j + 1)) (hl : m / 10000 ^ j % 10000 = n / 10000 ^ j % 10000) : m / 10000 ^ j = n / 10000 ^ j := by
  rw [Nat.pow_succ, ← Nat.div_div_eq_div_mul, ← Nat.div_div_eq_div_mul] at h
  omega
theorem top_zero {m j : Nat} (h : (dg m).length ≤ j) : m / 10000 ^ j = 0 := Nat.div_eq_of_lt (dg_len.1 h)
def cmpR (a b : List Int) : Int := if nok a = true ∧ nok b = true then cmpN (nv a) (nv b) else 2
theorem pw_len {j : Nat} (h : j ≤ 1000) : (dg (2 ^ j)).length ≤ 100 := by
  rw [dg_len]
  exact Nat.lt_of_le_of_lt (Nat.pow_le_pow_right (by omega) h) pow_room
theorem pw_nok {j : Nat} (h : j ≤ 1000) : nok (dg (2 ^ j)) = true := by rw [nok_dg]; exact decide_eq_true (pw_len h)
theorem pw_twice (j : Nat) : 2 ^ j + 2 ^ j = 2 ^ (j + 1) := by rw [Nat.pow_succ]; omega
theorem dg_one : ([1] : List Int) = dg (2 ^ 0) := by rw [dg_pos (by omega)]; simp [dg_zero]

theorem mul_e3 {o w : Nat} (ho : o ≤ 1010000000000) (hw : w ≤ 99980001) : wrap64 ((o : Int) + (w : Int)) = ((o + w : Nat) : Int) := by
  rw [wrap_id (by omega) (by omega)]; omega
theorem mul_up {o w s t : Nat} (h : (o : Int) ≤ ((s + t : Nat) : Int) * 100000000) (hw : w ≤ 99980001) : 0 ≤ ((o + w : Nat) : Int) ∧ ((o + w : Nat) : Int) ≤ ((s + (t + 1) : Nat) : Int) * 100000000 := by omega
theorem mul_ob {o s : Nat} (h : (o : Int) ≤ (s : Int) * 100000000) (hs : s ≤ 10100) : o ≤ 1010000000000 := by omega
theorem specMul_in (a b : List Int) (hla : a.length ≤ 100) (hlb : b.length ≤ 100) (i x : Nat) (hi : i < a.length) (hx : x < 10000) (hxr : rd a (i : Int) = (x : Int)) (r : List Int × Bool) (d : Nat) : ∀ (j nj P : Nat) (L : List Int), j + d = b.length → b.drop j = dg nj → (∀ _ : Unit, 10000 ^ (i + j) = P) → L.length = a.length + b.length →
    (∀ y ∈ L, 0 ≤ y ∧ y ≤ ((i * b.length + j : Nat) : Int) * 100000000) →
    (∀ L' : List Int, L'.length = a.length + b.length → (∀ y ∈ L', 0 ≤ y ∧ y ≤ (((i + 1) * b.length : Nat) : Int) * 100000000) → nv L' = nv L + x * (nj * P) → Ev (fun k => spec_MulNat.l0 k a b L' ((i + 1 : Nat) : Int)) r) →
    Ev (fun k => spec_MulNat.l1 k a b L (i : Int) (j : Int)) r := by
  have hib : i * b.length ≤ 10000 := Nat.mul_le_mul (show i ≤ 100 by omega) hlb
  induction d with
  | zero =>
    intro j nj P L hj hnj hP hL hy hk
    refine Ev.step (fun k => by rw [spec_MulNat.l1]) ?_
    simp only [if_neg (show ¬ (j : Int) < (b.length : Int) by omega), wrap_succ (show i < 9223372036854775807 by omega)]
    refine hk L hL (fun y h => ?_) ?_
    · have := hy y h
      rw [Nat.succ_mul]; omega
    · have := dg_lt hnj
      have h0 : nj = 0 := by omega
      rw [h0]; simp
  | succ d ih =>
    intro j nj P L hj hnj hP hL hy hk
    refine Ev.step (fun k => by rw [spec_MulNat.l1]) ?_
    have e1 : wrap64 ((i : Int) + (j : Int)) = ((i + j : Nat) : Int) := by rw [wrap_id (by omega) (by omega)]; omega
    have hz := dg_rd hnj
    obtain ⟨z, hzz⟩ : ∃ z, nj % 10000 = z := ⟨_, rfl⟩
    have hz1 : z < 10000 := by omega
    rw [hzz] at hz
    have hxy := mul_small hx hz1
    have hmem : rd L ((i + j : Nat) : Int) ∈ L := by rw [rd_lt L (i + j) (by omega)]; exact List.getElem_mem _
    have hb := hy _ hmem
    obtain ⟨o, ho⟩ := Int.eq_ofNat_of_zero_le hb.1
    obtain ⟨w, hw⟩ : ∃ w, x * z = w := ⟨_, rfl⟩
    rw [hw] at hxy
    have e2 : wrap64 ((x : Int) * (z : Int)) = (w : Int) := by
      rw [← Int.natCast_mul, hw, wrap_id (by omega) (by omega)]
    have e3 : wrap64 ((o : Int) + (w : Int)) = ((o + w : Nat) : Int) := mul_e3 (mul_ob (s := i * b.length + j) (by rw [← ho]; exact hb.2) (by omega)) hxy
    simp only [if_pos (show (j : Int) < (b.length : Int) by omega), e1, if_pos (show 0 ≤ ((i + j : Nat) : Int) by omega), if_pos (show ((i + j : Nat) : Int) < (L.length : Int) by omega), if_pos (show 0 ≤ (i : Int) by omega), if_pos (show (i : Int) < (a.length : Int) by omega), if_pos (show 0 ≤ (j : Int) by omega), wrap_succ (show j < 9223372036854775807 by omega), hxr, hz, ho, e2, e3, Int.toNat_natCast]
    have hjd : j + 1 + d = b.length := by omega
    have hlt : i + j < L.length := by omega
    have hs := nv_set L (i + j) ((o + w : Nat) : Int) hlt
    rw [ho, Int.toNat_natCast, Int.toNat_natCast, hP (), Nat.add_mul] at hs
    refine ih (j + 1) (nj / 10000) (P * 10000) _ hjd (dg_step hnj) (fun _ => by rw [show i + (j + 1) = (i + j) + 1 from rfl, Nat.pow_succ, hP ()]) (by simpa using hL) (fun y h => ?_) (fun L' h1 h2 h3 => hk L' h1 h2 ?_)
    · clear hs
      rcases List.mem_or_eq_of_mem_set h with h | h
      · have := hy y h; refine ⟨this.1, Int.le_trans this.2 ?_⟩; omega
      · subst h
        have h5 : (o : Int) ≤ ((i * b.length + j : Nat) : Int) * 100000000 := by rw [← ho]; exact hb.2
        exact mul_up h5 hxy
    · have hra := row_add (x := x) (q := nj / 10000) (y := z) (P := P) (A := nv (L.set (i + j) ((o + w : Nat) : Int))) (B := nv L) (by rw [hw]; clear hk ih hy hjd hlt hb hxy; omega)
      rw [show nj / 10000 * 10000 + z = nj by omega] at hra
      rw [h3]
      exact hra
theorem specMul_out (a b : List Int) (n T : Nat) (hb : b = dg n) (hla : a.length ≤ 100) (hlb : b.length ≤ 100) (hT : (dg T).length ≤ 1000) (d : Nat) : ∀ (i mi P : Nat) (L : List Int), i + d = a.length → a.drop i = dg mi → (∀ _ : Unit, 10000 ^ i = P) → L.length = a.length + b.length →
    (∀ y ∈ L, 0 ≤ y ∧ y ≤ ((i * b.length : Nat) : Int) * 100000000) → nv L + mi * P * n = T → Ev (fun k => spec_MulNat.l0 k a b L (i : Int)) (if nok (dg T) = true then (dg T, true) else ([], false)) := by
  induction d with
  | zero =>
    intro i mi P L hi hmi hP hL hy hn
    refine Ev.step (fun k => by rw [spec_MulNat.l0]) ?_
    simp only [if_neg (show ¬ (i : Int) < (a.length : Int) by omega)]
    have hib : i * b.length ≤ 10000 := Nat.mul_le_mul (show i ≤ 100 by omega) hlb
    have := dg_lt hmi
    have h0 : mi = 0 := by omega
    rw [h0] at hn
    simp only [Nat.zero_mul, Nat.add_zero] at hn
    refine Ev.bind (l1Carry_ev L (fun y h => by have := hy y h; omega) (by omega)) ?_
    rw [hn]
    refine Ev.bind (specNatOk_ev _ (by omega)) ?_
    by_cases e : nok (dg T) = true
    · simp only [if_pos e]; exact Ev.now _
    · simp only [if_neg e]; exact Ev.now _
  | succ d ih =>
    intro i mi P L hi hmi hP hL hy hn
    refine Ev.step (fun k => by rw [spec_MulNat.l0]) ?_
    simp only [if_pos (show (i : Int) < (a.length : Int) by omega)]
    refine specMul_in a b hla hlb i (mi % 10000) (by omega) (Nat.mod_lt _ (by omega)) (dg_rd hmi) _ b.length 0 n P L (by omega) hb (fun _ => hP ()) hL (fun y h => by have := hy y h; simpa using this) (fun L' h1 h2 h3 => ih (i + 1) (mi / 10000) (P * 10000) L' (by omega) (dg_step hmi) (fun _ => by rw [Nat.pow_succ, hP ()]) h1 h2 ?_)
    refine row_next (x := mi % 10000) (B := nv L) h3 ?_
    rw [show mi / 10000 * 10000 + mi % 10000 = mi by omega]
    exact hn
theorem specMul_ev (a b : List Int) (ha : a.length ≤ 1048576) (hb : b.length ≤ 1048576) : Ev (fun k => spec_MulNat.f k a b) (mulR a b) := by
  simp only [spec_MulNat.f]
  refine Ev.bind (l1Both_ev a b ha hb) ?_
  by_cases h : (nok a && nok b) = true
  · simp only [if_pos h]
    rw [Bool.and_eq_true] at h
    obtain ⟨m, rfl, hm⟩ := nok_ex h.1
    obtain ⟨n, rfl, hn⟩ := nok_ex h.2
    have e1 : wrap64 (((dg m).length : Int) + ((dg n).length : Int)) = (((dg m).length + (dg n).length : Nat) : Int) := by rw [wrap_id (by omega) (by omega)]; omega
    have hml := mul_len hm hn
    simp only [e1, if_pos (show 0 ≤ (((dg m).length + (dg n).length : Nat) : Int) by omega), Int.toNat_natCast, if_pos (show (dg m).length + (dg n).length ≤ 35184372088832 by omega)]
    refine (specMul_out (dg m) (dg n) n (m * n) rfl hm hn (by omega) (dg m).length 0 m 1 _ (by omega) rfl (fun _ => rfl) (by simp) (fun y h' => ?_) ?_).cast ?_
    · rw [List.mem_replicate] at h'; rw [h'.2]; simp
    · rw [nv_zeros]; simp
    · rw [mulR_dg h.1 h.2, nok_dg]
      by_cases e : (dg (m * n)).length ≤ 100
      · rw [if_pos (by simpa using e), if_pos e]
      · rw [if_neg (by simpa using e), if_neg e]
  · simp only [if_neg h]
    exact (Ev.now _).cast (by rw [mulR, if_neg (by simp at h; intro h'; rw [h h'.1] at h'; simp at h')])

theorem implNatOk_l (x : List Int) (hx : x.length ≤ 100) (d : Nat) : ∀ i : Nat, i + d = x.length → Ev (fun k => impl_NatOk.l0 k x x (x.length : Int) (i : Int)) (((x.drop i).all fun y => decide (0 ≤ y) && decide (y ≤ 9999)) && (x.isEmpty || rd x ((x.length : Int) - 1) != 0)) := by
  induction d with
  | zero =>
    intro i hi
    refine Ev.step (fun k => by rw [impl_NatOk.l0]) ?_
    simp only [if_neg (show ¬ (i : Int) < (x.length : Int) by omega)]
    rw [List.drop_of_length_le (show x.length ≤ i by omega)]
    by_cases h2 : x.length = 0
    · simp only [if_pos (show (x.length : Int) = 0 by omega)]
      exact (Ev.now true).cast (by simp [List.length_eq_zero_iff.1 h2])
    · have hw : wrap64 ((x.length : Int) - 1) = (x.length : Int) - 1 := wrap_id (by omega) (by omega)
      simp only [if_neg (show ¬ (x.length : Int) = 0 by omega), hw, if_pos (show 0 ≤ (x.length : Int) - 1 by omega), if_pos (show (x.length : Int) - 1 < (x.length : Int) by omega)]
      have hne : x.isEmpty = false := by cases x; simp at h2; rfl
      exact (Ev.now _).cast (by simp [hne])
  | succ d ih =>
    intro i hi
    refine Ev.step (fun k => by rw [impl_NatOk.l0]) ?_
    simp only [if_pos (show (i : Int) < (x.length : Int) by omega), if_pos (show 0 ≤ (i : Int) by omega), wrap_succ (show i < 9223372036854775807 by omega)]
    rw [drop_rd x i (by omega), List.all_cons]
    by_cases h : rd x (i : Int) < 0
    · simp only [if_pos h]
      exact (Ev.now false).cast (by rw [decide_eq_false (show ¬ 0 ≤ rd x (i : Int) by omega)]; simp)
    · simp only [if_neg h]
      by_cases h' : rd x (i : Int) ≥ 10000
      · simp only [if_pos h']
        exact (Ev.now false).cast (by rw [decide_eq_false (show ¬ rd x (i : Int) ≤ 9999 by omega)]; simp)
      · simp only [if_neg h']
        exact (ih (i + 1) (by omega)).cast (by rw [decide_eq_true (show 0 ≤ rd x (i : Int) by omega), decide_eq_true (show rd x (i : Int) ≤ 9999 by omega)]; simp)
theorem implNatOk_ev (x : List Int) : Ev (fun k => impl_NatOk.f k x) (nok x) := by
  simp only [impl_NatOk.f]
  by_cases h : x.length ≤ 100
  · simp only [if_neg (show ¬ (x.length : Int) > 100 by omega)]
    exact (implNatOk_l x h x.length 0 (by omega)).cast (by simp [nok, h])
  · simp only [if_pos (show (x.length : Int) > 100 by omega)]
    exact (Ev.now false).cast (by simp [nok, h])

theorem place_eq (a : List Int) (i : Nat) : impl_great_place.f a (i : Int) = some (lm a (i : Int)) := by
  unfold impl_great_place.f lm
  split
  · rw [if_pos (by omega)]
  · rfl

theorem trimmed_l (d : Nat) : ∀ (a : List Int), a.length = d → d ≤ 4611686018427387904 → Ev (fun k => impl_great_trimmed.l0 k a) (tr a) := by
  induction d with
  | zero =>
    intro a ha hd
    refine Ev.step (fun k => by rw [impl_great_trimmed.l0]) ?_
    simp only [if_neg (show ¬ (a.length : Int) > 0 by omega)]
    exact (Ev.now _).cast (by rw [List.length_eq_zero_iff.1 ha]; rfl)
  | succ d ih =>
    intro a ha hd
    refine Ev.step (fun k => by rw [impl_great_trimmed.l0]) ?_
    have hw : wrap64 ((a.length : Int) - 1) = (d : Int) := by rw [ha, wrap_id (by omega) (by omega)]; omega
    simp only [if_pos (show (a.length : Int) > 0 by omega), hw, if_pos (show 0 ≤ (d : Int) by omega), if_pos (show (d : Int) < (a.length : Int) by omega), Int.toNat_natCast]
    have e := take_rd a d (by omega)
    rw [List.take_of_length_le (by omega)] at e
    by_cases c : rd a (d : Int) = 0
    · simp only [if_pos c, if_pos (show (d : Int) ≤ (a.length : Int) by omega)]
      refine (ih (a.take d) (by simp; omega) (by omega)).cast ?_
      rw [c] at e
      rw [show tr a = tr (a.take d ++ [0]) from congrArg tr e, tr_snoc0]
    · simp only [if_neg c]
      refine (Ev.now _).cast ?_
      rw [show tr a = tr (a.take d ++ [rd a (d : Int)]) from congrArg tr e, tr_snoc c, ← e]
theorem trimmed_ev (a : List Int) (h : a.length ≤ 4611686018427387904) : Ev (fun k => impl_great_trimmed.f k a) (tr a) := by
  simp only [impl_great_trimmed.f]
  exact trimmed_l a.length a rfl h

theorem times_e3 {o w c : Nat} (ho : o < 10000) (hw : w ≤ 99980001) (hc : c ≤ 9999) : wrap64 (wrap64 ((o : Int) + (w : Int)) + (c : Int)) = ((o + w + c : Nat) : Int) := by
  rw [wrap_id (x := (o : Int) + (w : Int)) (by omega) (by omega), wrap_id (by omega) (by omega)]; omega
theorem times_hsm {o w c : Nat} (ho : o < 10000) (hw : w ≤ 99980001) (hc : c ≤ 9999) : wrap64 (((o + w + c) / 10000 : Nat) : Int) = (((o + w + c) / 10000 : Nat) : Int) := wrap_id (by omega) (by omega)
theorem times_c {o w c : Nat} (ho : o < 10000) (hw : w ≤ 99980001) (hc : c ≤ 9999) : (o + w + c) / 10000 ≤ 9999 := by omega
theorem times_e2 {x z w : Nat} (hw : x * z = w) (hxy : w ≤ 99980001) : wrap64 ((x : Int) * (z : Int)) = (w : Int) := by
  rw [← Int.natCast_mul, hw, wrap_id (by omega) (by omega)]
theorem times_z {o w c : Nat} (ho : o = 0) (hw : w = 0) (hc : c ≤ 9999) : (o + w + c) / 10000 = 0 := by omega
theorem times_dig (s : Nat) : 0 ≤ ((s % 10000 : Nat) : Int) ∧ ((s % 10000 : Nat) : Int) < 10000 := by omega
theorem times_in (a b : List Int) (hla : a.length ≤ 100) (hlb : b.length ≤ 100) (i x : Nat) (hi : i < a.length) (hx : x < 10000) (r : List Int) (d : Nat) : ∀ (j c nj P : Nat) (L : List Int), j + d = b.length + 1 → b.drop j = dg nj → (∀ _ : Unit, 10000 ^ (i + j) = P) → L.length = a.length + b.length →
    dok L → c ≤ 9999 → (∀ t : Nat, i + b.length + 1 ≤ t → rd L (t : Int) = 0) → (j ≤ b.length → rd L ((i + b.length : Nat) : Int) = 0) → (j ≤ b.length ∨ c = 0) →
    (∀ L' : List Int, L'.length = a.length + b.length → dok L' → (∀ t : Nat, i + b.length + 1 ≤ t → rd L' (t : Int) = 0) → nv L' = nv L + (c + x * nj) * P → Ev (fun k => impl_great_times.l0 k b L' a (a.length : Int) ((i + 1 : Nat) : Int)) r) →
    Ev (fun k => impl_great_times.l1 k b L (i : Int) (x : Int) (c : Int) (j : Int) a (a.length : Int) (i : Int)) r := by
  induction d with
  | zero =>
    intro j c nj P L hj hnj hP hL hd hc hz hz' hjc hk
    refine Ev.step (fun k => by rw [impl_great_times.l1]) ?_
    obtain rfl : c = 0 := by omega
    simp only [if_neg (show ¬ (j : Int) < (b.length : Int) by omega), if_neg (show ¬ ((0 : Nat) : Int) > 0 by omega), wrap_succ (show i < 9223372036854775807 by omega)]
    refine hk L hL hd hz ?_
    have := dg_lt hnj
    have h0 : nj = 0 := by omega
    rw [h0]; simp
  | succ d ih =>
    intro j c nj P L hj hnj hP hL hd hc hz hz' hjc hk
    refine Ev.step (fun k => by rw [impl_great_times.l1]) ?_
    have hjl := dg_lt hnj
    by_cases hend : j = b.length ∧ c = 0
    · obtain ⟨hjn, rfl⟩ := hend
      simp only [if_neg (show ¬ (j : Int) < (b.length : Int) by omega), if_neg (show ¬ ((0 : Nat) : Int) > 0 by omega), wrap_succ (show i < 9223372036854775807 by omega)]
      refine hk L hL hd hz ?_
      have h0 : nj = 0 := by omega
      rw [h0]; simp
    · have hjle : j ≤ b.length := by omega
      have hcc : Aside0 (¬ j < b.length → 0 < c) := ⟨fun h => by omega⟩
      have hn0 : Aside0 (¬ j < b.length → nj = 0) := ⟨fun h => by omega⟩
      clear hend hjc hjl
      have e1 : wrap64 ((i : Int) + (j : Int)) = ((i + j : Nat) : Int) := by rw [wrap_id (by omega) (by omega)]; omega
      have hzr := dg_lm hnj
      obtain ⟨z, hzz⟩ : ∃ z, nj % 10000 = z := ⟨_, rfl⟩
      have hz1 : z < 10000 := by omega
      rw [hzz] at hzr
      have hxy := mul_small hx hz1
      have hmem : rd L ((i + j : Nat) : Int) ∈ L := by rw [rd_lt L (i + j) (by omega)]; exact List.getElem_mem _
      have hb := hd _ hmem
      obtain ⟨o, ho⟩ := Int.eq_ofNat_of_zero_le hb.1
      have ho' : o < 10000 := by have := hb.2; rw [ho] at this; omega
      obtain ⟨w, hw⟩ : ∃ w, x * z = w := ⟨_, rfl⟩
      rw [hw] at hxy
      have e2 : wrap64 ((x : Int) * (z : Int)) = (w : Int) := times_e2 hw hxy
      have e3 : wrap64 (wrap64 ((o : Int) + (w : Int)) + (c : Int)) = ((o + w + c : Nat) : Int) := times_e3 ho' hxy hc
      have hrec : Ev (fun k => impl_great_times.l1 k b (L.set (i + j) (((o + w + c) % 10000 : Nat) : Int)) (i : Int) (x : Int) (((o + w + c) / 10000 : Nat) : Int) ((j + 1 : Nat) : Int) a (a.length : Int) (i : Int)) r := by
        have hjd : j + 1 + d = b.length + 1 := by omega
        have hlt : i + j < L.length := by omega
        have hset := nv_set L (i + j) (((o + w + c) % 10000 : Nat) : Int) hlt
        rw [ho, Int.toNat_natCast, Int.toNat_natCast, hP ()] at hset
        refine ih (j + 1) ((o + w + c) / 10000) (nj / 10000) (P * 10000) _ hjd (dg_step hnj) (fun _ => by rw [show i + (j + 1) = (i + j) + 1 from rfl, Nat.pow_succ, hP ()]) (by simpa using hL) ?_ (times_c ho' hxy hc) ?_ ?_ ?_ ?_
        · clear hset
          intro y h
          rcases List.mem_or_eq_of_mem_set h with h | h
          · exact hd y h
          · subst h; exact times_dig _
        · clear hset
          intro t ht
          rw [rd_set, if_neg (fun h4 => by omega)]; exact hz t ht
        · clear hset
          intro h
          rw [rd_set, if_neg (fun h4 => by omega)]; exact hz' (by omega)
        · clear hset
          rcases Nat.lt_or_ge j b.length with h | h
          · left; omega
          · right
            have hjb : j = b.length := by omega
            have h1 := hz' (by omega)
            rw [← hjb, ho] at h1
            have h2 : z = 0 := by rw [← hzz, hn0.out (Nat.not_lt.2 h)]
            rw [h2, Nat.mul_zero] at hw
            exact times_z (Int.ofNat_inj.1 h1) hw.symm hc
        · intro L' h1 h2 h3 h4
          refine hk L' h1 h2 h3 ?_
          have hca := carry_add (x := x) (q := nj / 10000) (y := z) (c := c) (s2 := (o + w + c) / 10000) (o := o) (s1 := (o + w + c) % 10000) hset (by rw [hw]; exact Nat.mod_add_div _ _)
          rw [show nj / 10000 * 10000 + z = nj by omega] at hca
          rw [h4]
          exact hca
      have hsm : wrap64 (((o + w + c) / 10000 : Nat) : Int) = (((o + w + c) / 10000 : Nat) : Int) := times_hsm ho' hxy hc
      by_cases hjb : j < b.length
      · simp only [if_pos (show (j : Int) < (b.length : Int) by omega), e1, if_pos (show 0 ≤ ((i + j : Nat) : Int) by omega), if_pos (show ((i + j : Nat) : Int) < (L.length : Int) by omega), place_eq, hzr, Option.bind_some, wrap_succ (show j < 9223372036854775807 by omega), ho, e2, e3, tmod4, tdiv4, hsm, Int.toNat_natCast]
        exact hrec
      · have qc : (c : Int) > 0 := Int.natCast_pos.2 (hcc.out hjb)
        have qj : ¬ (j : Int) < (b.length : Int) := fun h => hjb (Int.ofNat_lt.1 h)
        simp only [if_neg qj, if_pos qc, e1, if_pos (show 0 ≤ ((i + j : Nat) : Int) by omega), if_pos (show ((i + j : Nat) : Int) < (L.length : Int) by omega), place_eq, hzr, Option.bind_some, wrap_succ (show j < 9223372036854775807 by omega), ho, e2, e3, tmod4, tdiv4, hsm, Int.toNat_natCast]
        exact hrec
theorem times_out (a b : List Int) (n T : Nat) (hb : b = dg n) (hla : a.length ≤ 100) (hlb : b.length ≤ 100) (d : Nat) : ∀ (i mi P : Nat) (L : List Int), i + d = a.length → a.drop i = dg mi → (∀ _ : Unit, 10000 ^ i = P) → L.length = a.length + b.length →
    dok L → (∀ t : Nat, i + b.length ≤ t → rd L (t : Int) = 0) → nv L + mi * P * n = T → Ev (fun k => impl_great_times.l0 k b L a (a.length : Int) (i : Int)) (dg T) := by
  induction d with
  | zero =>
    intro i mi P L hi hmi hP hL hd hz hn
    refine Ev.step (fun k => by rw [impl_great_times.l0]) ?_
    simp only [if_neg (show ¬ (i : Int) < (a.length : Int) by omega)]
    have := dg_lt hmi
    have h0 : mi = 0 := by omega
    rw [h0] at hn
    simp only [Nat.zero_mul, Nat.add_zero] at hn
    refine Ev.bind (trimmed_ev L (by omega)) ?_
    rw [tr_dg hd, hn]
    exact Ev.now _
  | succ d ih =>
    intro i mi P L hi hmi hP hL hd hz hn
    refine Ev.step (fun k => by rw [impl_great_times.l0]) ?_
    simp only [if_pos (show (i : Int) < (a.length : Int) by omega), if_pos (show 0 ≤ (i : Int) by omega), dg_rd hmi]
    refine times_in a b hla hlb i (mi % 10000) (by omega) (Nat.mod_lt _ (by omega)) _ (b.length + 1) 0 0 n P L (by omega) hb (fun _ => hP ()) hL hd (by omega) (fun t ht => hz t (by omega)) (fun _ => hz _ (Nat.le_refl _)) (Or.inl (by omega)) (fun L' h1 h2 h3 h4 => ih (i + 1) (mi / 10000) (P * 10000) L' (by omega) (dg_step hmi) (fun _ => by rw [Nat.pow_succ, hP ()]) h1 h2 (fun t ht => h3 t (by omega)) ?_)
    refine row_next (x := mi % 10000) (B := nv L) (by rw [h4, Nat.zero_add, Nat.mul_assoc]) ?_
    rw [show mi / 10000 * 10000 + mi % 10000 = mi by omega]
    exact hn
theorem times_ev (m n : Nat) (hm : (dg m).length ≤ 100) (hn : (dg n).length ≤ 100) : Ev (fun k => impl_great_times.f k (dg m) (dg n)) (dg (m * n)) := by
  simp only [impl_great_times.f]
  have e1 : wrap64 (((dg m).length : Int) + ((dg n).length : Int)) = (((dg m).length + (dg n).length : Nat) : Int) := by rw [wrap_id (by omega) (by omega)]; omega
  simp only [e1, if_pos (show 0 ≤ (((dg m).length + (dg n).length : Nat) : Int) by omega), Int.toNat_natCast, if_pos (show (dg m).length + (dg n).length ≤ 35184372088832 by omega)]
  refine times_out (dg m) (dg n) n (m * n) rfl hm hn (dg m).length 0 m 1 _ (by omega) rfl (fun _ => rfl) (by simp) (fun y h' => ?_) (fun t ht => ?_) ?_
  · rw [List.mem_replicate] at h'; rw [h'.2]; omega
  · rw [rd_cast, List.getD_eq_getElem?_getD, List.getElem?_replicate]; split <;> rfl
  · rw [nv_zeros]; simp

theorem told_eq (l : List Int) : impl_told.f l = some (if l.length ≤ 100 then (l, true) else ([], false)) := by
  unfold impl_told.f
  by_cases h : l.length ≤ 100
  · rw [if_neg (by omega), if_pos h]
  · rw [if_pos (by omega), if_neg h]

theorem implMul_ev (a b : List Int) : Ev (fun k => impl_MulNat.f k a b) (mulR a b) := by
  simp only [impl_MulNat.f]
  refine Ev.bind (implNatOk_ev a) ?_
  by_cases h1 : nok a = true
  · simp only [if_pos h1]
    refine Ev.bind (implNatOk_ev b) ?_
    refine Ev.step (fun k => by rw [impl_MulNat.j0]) ?_
    by_cases h2 : nok b = true
    · simp only [h2, Bool.not_true, Bool.false_eq_true, if_false]
      obtain ⟨m, rfl, hm⟩ := nok_ex h1
      obtain ⟨n, rfl, hn⟩ := nok_ex h2
      refine Ev.bind (times_ev m n hm hn) ?_
      simp only [told_eq, Option.bind_some]
      exact (Ev.now _).cast (by rw [mulR_dg h1 h2])
    · simp only [Bool.not_eq_true] at h2
      simp only [h2, Bool.not_false, if_true]
      exact (Ev.now _).cast (by simp [mulR, h2])
  · simp only [if_neg h1]
    refine Ev.step (fun k => by rw [impl_MulNat.j0]) ?_
    simp only [if_true]
    exact (Ev.now _).cast (by simp [mulR, h1])

theorem toInt64S_l (l : List Int) (hl : l.length ≤ 1048576) (d : Nat) : ∀ (i : Nat) (x : List Int), i + d = l.length → x.length = l.length → (∀ j, j < i → x[j]? = l[j]?) → Ev (fun k => laws_toInt64S.l0 k l x (i : Int)) l := by
  induction d with
  | zero =>
    intro i x hi hx ht
    refine Ev.step (fun k => by rw [laws_toInt64S.l0]) ?_
    simp only [if_neg (show ¬ (i : Int) < (l.length : Int) by omega)]
    obtain rfl : x = l := ext_at hx (fun j hj => ht j (by omega))
    exact Ev.now _
  | succ d ih =>
    intro i x hi hx ht
    refine Ev.step (fun k => by rw [laws_toInt64S.l0]) ?_
    simp only [if_pos (show (i : Int) < (l.length : Int) by omega), if_pos (show 0 ≤ (i : Int) by omega), if_pos (show (i : Int) < (x.length : Int) by omega), wrap_succ (show i < 9223372036854775807 by omega), Int.toNat_natCast]
    refine ih (i + 1) _ (by omega) (by simpa using hx) (fun j hj => ?_)
    rw [List.getElem?_set]
    by_cases e : i = j
    · subst e
      rw [if_pos rfl, if_pos (by omega), rd_lt l i (by omega), List.getElem?_eq_getElem (by omega)]
    · rw [if_neg e]; exact ht j (by omega)
theorem toInt64S_ev (l : List Int) (hl : l.length ≤ 1048576) : Ev (fun k => laws_toInt64S.f k l) l := by
  simp only [laws_toInt64S.f, if_pos (show 0 ≤ (l.length : Int) by omega), Int.toNat_natCast, if_pos (show l.length ≤ 35184372088832 by omega)]
  exact toInt64S_l l hl l.length 0 _ (by omega) (by simp) (fun j hj => by omega)


theorem eqInt64S_l (a b : List Int) (hl : a.length = b.length) (ha : a.length ≤ 9223372036854775807) (d : Nat) : ∀ (i : Nat), i + d = a.length → Ev (fun k => laws_eqInt64S.l0 k a b (i : Int)) (decide (a.drop i = b.drop i)) := by
  induction d with
  | zero =>
    intro i hi
    refine Ev.step (fun k => by rw [laws_eqInt64S.l0]) ?_
    simp only [if_neg (show ¬ (i : Int) < (a.length : Int) by omega)]
    rw [List.drop_of_length_le (show a.length ≤ i by omega), List.drop_of_length_le (show b.length ≤ i by omega)]
    simp only [decide_true]
    exact Ev.now _
  | succ d ih =>
    intro i hi
    refine Ev.step (fun k => by rw [laws_eqInt64S.l0]) ?_
    simp only [if_pos (show (i : Int) < (a.length : Int) by omega), if_pos (show 0 ≤ (i : Int) by omega), if_pos (show (i : Int) < (b.length : Int) by omega), wrap_succ (show i < 9223372036854775807 by omega)]
    rw [drop_rd a i (by omega), drop_rd b i (by omega)]
    by_cases e : rd a (i : Int) = rd b (i : Int)
    · simp only [if_pos e]
      exact (ih (i + 1) (by omega)).cast (by simp [e])
    · simp only [if_neg e]
      exact (Ev.now false).cast (by simp [e])
theorem eqInt64S_ev (a b : List Int) (ha : a.length ≤ 9223372036854775807) : Ev (fun k => laws_eqInt64S.f k a b) (decide (a = b)) := by
  simp only [laws_eqInt64S.f]
  by_cases hl : a.length = b.length
  · simp only [if_pos (show (a.length : Int) = (b.length : Int) by omega)]
    exact (eqInt64S_l a b hl ha a.length 0 (by omega)).cast (by simp)
  · simp only [if_neg (show ¬ (a.length : Int) = (b.length : Int) by omega)]
    exact (Ev.now false).cast (by have : a ≠ b := (fun e => hl (by rw [e])); simp [this])

theorem markInt64S_l (n : Nat) (m : Int) (h0 : 0 ≤ m) (hm : m + n ≤ 4611686018427387904) (d : Nat) : ∀ (i : Nat) (x : List Int), i + d = n → x.length = n → (∀ j, j < i → x[j]? = some (m + (j : Int))) → Ev (fun k => laws_markInt64S.l0 k x (m + (i : Int)) (i : Int)) (m + (n : Int), ups m n) := by
  induction d with
  | zero =>
    intro i x hi hx ht
    refine Ev.step (fun k => by rw [laws_markInt64S.l0]) ?_
    simp only [if_neg (show ¬ (i : Int) < (x.length : Int) by omega)]
    obtain rfl : x = ups m n := ext_at (by rw [hx, ups_len]) (fun j hj => by rw [ups_len] at hj; rw [ht j (by omega), ups_at hj])
    obtain rfl : i = n := by omega
    exact Ev.now _
  | succ d ih =>
    intro i x hi hx ht
    refine Ev.step (fun k => by rw [laws_markInt64S.l0]) ?_
    have hw : wrap64 (m + (i : Int) + 1) = m + ((i + 1 : Nat) : Int) := by unfold wrap64; omega
    simp only [if_pos (show (i : Int) < (x.length : Int) by omega), if_pos (show 0 ≤ (i : Int) by omega), wrap_succ (show i < 9223372036854775807 by omega), hw, Int.toNat_natCast]
    refine ih (i + 1) _ (by omega) (by simpa using hx) (fun j hj => ?_)
    rw [List.getElem?_set]
    by_cases e : i = j
    · subst e
      rw [if_pos rfl, if_pos (by omega)]
    · rw [if_neg e]; exact ht j (by omega)
theorem markInt64S_ev (l : List Int) (m : Int) (h0 : 0 ≤ m) (hm : m + l.length ≤ 4611686018427387904) : Ev (fun k => laws_markInt64S.f k l m) (m + (l.length : Int), ups m l.length) := by
  simp only [laws_markInt64S.f]
  have h := markInt64S_l l.length m h0 hm l.length 0 l (by omega) rfl (fun j hj => by omega)
  simpa using h
theorem heldInt64S_l (n : Nat) (m : Int) (h0 : 0 ≤ m) (hm : m + n ≤ 4611686018427387904) (d : Nat) : ∀ (i : Nat), i + d = n → Ev (fun k => laws_heldInt64S.l0 k (ups m n) (m + (i : Int)) (i : Int)) (m + (n : Int)) := by
  induction d with
  | zero =>
    intro i hi
    refine Ev.step (fun k => by rw [laws_heldInt64S.l0]) ?_
    simp only [ups_len, if_neg (show ¬ (i : Int) < (n : Int) by omega)]
    obtain rfl : i = n := by omega
    exact Ev.now _
  | succ d ih =>
    intro i hi
    refine Ev.step (fun k => by rw [laws_heldInt64S.l0]) ?_
    have hw : wrap64 (m + (i : Int) + 1) = m + ((i + 1 : Nat) : Int) := by unfold wrap64; omega
    simp only [ups_len, if_pos (show (i : Int) < (n : Int) by omega), if_pos (show 0 ≤ (i : Int) by omega), wrap_succ (show i < 9223372036854775807 by omega), hw, ups_rd (show i < n by omega), if_true]
    exact ih (i + 1) (by omega)
theorem heldInt64S_ev (n : Nat) (m : Int) (h0 : 0 ≤ m) (hm : m + n ≤ 4611686018427387904) : Ev (fun k => laws_heldInt64S.f k (ups m n) m) (m + (n : Int)) := by
  simp only [laws_heldInt64S.f]
  have h := heldInt64S_l n m h0 hm n 0 (by omega)
  simpa using h

def Want_FnExactMulNat : Prop := ∀ (l0 : List (Int)) (l1 : List (Int)), (l0.length ≤ 9223372036854775807 ∧ ∀ u1 ∈ l0, (Lit.int .i64 u1).wf = true) → (l1.length ≤ 9223372036854775807 ∧ ∀ u2 ∈ l1, (Lit.int .i64 u2).wf = true) → ∃ k, laws_FnExactMulNat.f k l0 l1 = some true
theorem FnExactMulNat : Want_FnExactMulNat := by
  intro a b hq hq'
  refine Ev.rounds ?_
  simp only [laws_FnExactMulNat.f]
  by_cases h : (a.length : Int) > 1048576
  · simp only [if_pos h]; exact Ev.now _
  by_cases g : (b.length : Int) > 1048576
  · simp only [if_neg h, if_pos g]; exact Ev.now _
  simp only [if_neg h, if_neg g]
  have ha : a.length ≤ 1048576 := by omega
  have hb : b.length ≤ 1048576 := by omega
  have hr : (mulR a b).1.length ≤ 100 := by
    unfold mulR
    split
    · rename_i h; exact h.2.2
    · simp
  have e1 := specMul_ev a b ha hb
  have e2 := implMul_ev a b
  generalize mulR a b = R at hr e1 e2
  obtain ⟨r, ok⟩ := R
  refine Ev.bind (toInt64S_ev a ha) ?_
  refine Ev.bind (toInt64S_ev b hb) ?_
  refine Ev.bind e1 ?_
  refine Ev.bind (toInt64S_ev a ha) ?_
  refine Ev.bind (toInt64S_ev b hb) ?_
  refine Ev.bind e2 ?_
  refine Ev.bind (eqInt64S_ev r r (by simp at hr; omega)) ?_
  simp only [decide_true, if_true, bne_self_eq_false]
  refine Ev.step (fun k => by rw [laws_FnExactMulNat.j0]) ?_
  simp only [Bool.false_eq_true, if_false]
  refine Ev.bind (toInt64S_ev a ha) ?_
  refine Ev.bind (eqInt64S_ev a a (by omega)) ?_
  simp only [decide_true, if_true]
  refine Ev.bind (toInt64S_ev b hb) ?_
  refine Ev.bind (eqInt64S_ev b b (by omega)) ?_
  simp only [decide_true, if_true]
  refine Ev.bind (markInt64S_ev a 1 (by omega) (by omega)) ?_
  refine Ev.bind (markInt64S_ev b (1 + (a.length : Int)) (by omega) (by omega)) ?_
  simp only [if_neg (show ¬ (1 : Int) + (a.length : Int) + (b.length : Int) < 0 by omega)]
  refine Ev.bind (eqInt64S_ev r r (by simp at hr; omega)) ?_
  simp only [decide_true, if_true, bne_self_eq_false]
  refine Ev.step (fun k => by rw [laws_FnExactMulNat.j1]) ?_
  simp only [Bool.false_eq_true, if_false]
  refine Ev.bind (markInt64S_ev r 1 (by omega) (by simp at hr; omega)) ?_
  refine Ev.bind (heldInt64S_ev r.length 1 (by omega) (by simp at hr; omega)) ?_
  simp only [if_neg (show ¬ (1 : Int) + (r.length : Int) < 0 by omega), if_true]
  refine Ev.bind (toInt64S_ev a ha) ?_
  refine Ev.bind (toInt64S_ev b hb) ?_
  refine Ev.bind e2 ?_
  refine Ev.bind (eqInt64S_ev r r (by simp at hr; omega)) ?_
  simp only [decide_true, if_true, bne_self_eq_false]
  refine Ev.step (fun k => by rw [laws_FnExactMulNat.j2]) ?_
  simp only [Bool.false_eq_true, if_false]
  refine Ev.bind (heldInt64S_ev r.length 1 (by omega) (by simp at hr; omega)) ?_
  simp only [if_neg (show ¬ (1 : Int) + (r.length : Int) < 0 by omega), if_true]
  exact Ev.now _
end Go.Proofs.Ytfpobacomphnbaa.Pure
