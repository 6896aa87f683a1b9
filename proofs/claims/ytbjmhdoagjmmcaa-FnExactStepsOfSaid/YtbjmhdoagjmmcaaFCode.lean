/- Part of the pure side: Code. -/
import Derived.Test.YtbjmhdoagjmmcaaPCoreg
import Derived.Test.YtbjmhdoagjmmcaaPCoreg1
import Derived.Test.YtbjmhdoagjmmcaaPCoreg2
import Derived.Test.YtbjmhdoagjmmcaaPCoreg5
import Derived.Test.YtbjmhdoagjmmcaaPCoreg6
import Derived.Test.YtbjmhdoagjmmcaaTerm
import Derived.Test.YtbjmhdoagjmmcaaFNest
import Derived.Test.YtbjmhdoagjmmcaaFExpOk
import Derived.Test.YtbjmhdoagjmmcaaFInputS
set_option linter.unusedVariables false
set_option linter.unusedSimpArgs false
namespace Go.Proofs.Ytbjmhdoagjmmcaa.Pure
open Go.RowKit Go.Proofs.Ytbjmhdoagjmmcaa.PCore Go.Proofs.YtbjmhdoagjmmcaaW.PrintWords Go.Proofs.YtbjmhdoagjmmcaaW.PrintLast Go.Proofs.YtbjmhdoagjmmcaaW.PrintMore Go.Proofs.Ytbjmhdoagjmmcaa.Bs

theorem rdPg_ (y z : S35) (h : y = z) : rd_T35 [y] 0 = z := h
theorem rdPg (y : S35) : rd_T35 [y] 0 = y := rdPg_ y y (Eq.trans rfl rfl)
/-! Size, greatest, bits. -/
theorem pow8 (i : Nat) (h : i ≤ 8) : (2 : Nat) ^ i ≤ 256 := Nat.pow_le_pow_right (by omega) h
theorem l3Size_l (n : Nat) (hn : n ≤ 8) (a b : List S77) (t : Int) (c : List Int) (x : List S42) (d : Nat) : ∀ i : Nat, i + d = n → Ev (fun k => spec_l3Size.l0 k ((2 ^ i : Nat) : Int) (i : Int) (n : Int) a b t c x) ((2 ^ n : Nat) : Int) := by
  induction d with
  | zero =>
    intro i hi
    refine Ev.step (fun k => by rw [spec_l3Size.l0]) ?_
    simp only [if_neg (show ¬ (i : Int) < (n : Int) by omega)]
    exact (Ev.now _).cast (by rw [show i = n by omega])
  | succ d ih =>
    intro i hi
    refine Ev.step (fun k => by rw [spec_l3Size.l0]) ?_
    have h2 : wrap64 (((2 ^ i : Nat) : Int) * 2) = ((2 ^ (i + 1) : Nat) : Int) := by
      have := pow8 i (by omega)
      rw [Nat.pow_succ]
      generalize 2 ^ i = q at this ⊢
      rw [wrap_id (by omega) (by omega)]; omega
    simp only [if_pos (show (i : Int) < (n : Int) by omega), h2, wrap_succ (show i < 9223372036854775807 by omega)]
    exact ih (i + 1) (by omega)
theorem l3Size_ev (n : Nat) (hn : n ≤ 8) (a b : List S77) (t : Int) (c : List Int) (x : List S42) : Ev (fun k => spec_l3Size.f k (n : Int) a b t c x) ((2 ^ n : Nat) : Int) := by
  simp only [spec_l3Size.f]
  exact l3Size_l n hn a b t c x n 0 (by omega)
theorem shl_pow : ∀ n : Fin 9, shl .i64 1 ((n : Nat) : Int) = ((2 ^ (n : Nat) : Nat) : Int) := by decide
theorem greatest_eq (n : Nat) (hn : n ≤ 8) (a b : List S77) (t : Int) (c : List Int) (x : List S42) : impl_greatest.f [(⟨(n : Int), a, b, t, c, x⟩ : S35)] = some (((2 ^ n : Nat) : Int) - 1) := by
  have h1 := shl_pow ⟨n, by omega⟩
  have h2 := pow8 n hn
  simp only [impl_greatest.f, rdPg]
  simp only [if_pos (show 0 ≤ (n : Int) by omega)]
  rw [show shl .i64 1 (n : Int) = ((2 ^ n : Nat) : Int) from h1]
  generalize 2 ^ n = q at h2 ⊢
  rw [wrap_id (by omega) (by omega)]
/-- How many bits a number has. -/
def bl (m : Nat) : Nat := if m = 0 then 0 else m.log2 + 1
theorem bl_half (m : Nat) (h : 0 < m) : bl m = bl (m / 2) + 1 := by
  unfold bl
  rw [if_neg (by omega), Nat.log2_def]
  by_cases c : 2 ≤ m
  · rw [if_pos c, if_neg (by omega)]
  · rw [if_neg c, if_pos (by omega)]
theorem bl_le (d : Nat) : ∀ m : Nat, m < 2 ^ d → bl m ≤ d := by
  induction d with
  | zero => intro m h; have : m = 0 := by simpa using h
            subst this; simp [bl]
  | succ d ih =>
    intro m h
    by_cases c : m = 0
    · subst c; simp [bl]
    · rw [bl_half m (by omega)]
      have := ih (m / 2) (by rw [Nat.pow_succ] at h; omega)
      omega
theorem half_tdiv (m : Nat) (hm : m ≤ 1000) : wrap64 (Int.tdiv (m : Int) 2) = ((m / 2 : Nat) : Int) := by
  rw [show Int.tdiv (m : Int) 2 = ((m / 2 : Nat) : Int) from rfl, wrap_id (by omega) (by omega)]
theorem bits_l (d : Nat) : ∀ (m acc : Nat), m ≤ d → m ≤ 1000 → acc ≤ 1000000 - m → Ev (fun k => spec_l3Bits.l0 k (m : Int) (acc : Int)) ((acc + bl m : Nat) : Int) ∧ Ev (fun k => impl_bitsOf.l0 k (m : Int) (acc : Int)) ((acc + bl m : Nat) : Int) := by
  induction d with
  | zero =>
    intro m acc hd hm ha
    obtain rfl : m = 0 := by omega
    constructor
    · refine Ev.step (fun k => by rw [spec_l3Bits.l0]) ?_
      simp only [if_neg (show ¬ ((0 : Nat) : Int) > 0 by omega)]
      exact Ev.now _
    · refine Ev.step (fun k => by rw [impl_bitsOf.l0]) ?_
      simp only [if_neg (show ¬ ((0 : Nat) : Int) > 0 by omega)]
      exact Ev.now _
  | succ d ih =>
    intro m acc hd hm ha
    by_cases c : m = 0
    · subst c; exact ih 0 acc (by omega) (by omega) ha
    · have h := ih (m / 2) (acc + 1) (by omega) (by omega) (by omega)
      have e : acc + bl m = acc + 1 + bl (m / 2) := by rw [bl_half m (by omega)]; omega
      constructor
      · refine Ev.step (fun k => by rw [spec_l3Bits.l0]) ?_
        simp only [if_pos (show (m : Int) > 0 by omega), half_tdiv m hm, wrap_succ (show acc < 9223372036854775807 by omega)]
        exact h.1.cast (by rw [e])
      · refine Ev.step (fun k => by rw [impl_bitsOf.l0]) ?_
        simp only [if_pos (show (m : Int) > 0 by omega), half_tdiv m hm, wrap_succ (show acc < 9223372036854775807 by omega)]
        exact h.2.cast (by rw [e])
theorem specBits_ev (v : Int) (h0 : 0 ≤ v) (h1 : v ≤ 256) : Ev (fun k => spec_l3Bits.f k v) ((bl v.toNat : Nat) : Int) := by
  obtain ⟨m, rfl⟩ := Int.eq_ofNat_of_zero_le h0
  simp only [spec_l3Bits.f]
  exact ((bits_l m m 0 (by omega) (by omega) (by omega)).1).cast (by simp)
theorem implBits_ev (v : Int) (h0 : 0 ≤ v) (h1 : v ≤ 256) : Ev (fun k => impl_bitsOf.f k v) ((bl v.toNat : Nat) : Int) := by
  obtain ⟨m, rfl⟩ := Int.eq_ofNat_of_zero_le h0
  simp only [impl_bitsOf.f]
  exact ((bits_l m m 0 (by omega) (by omega) (by omega)).2).cast (by simp)
/-! Inputs. -/
def inOk (g : Int) (low : Bool) (e : S77) : Bool := decide (0 ≤ e.f0) && decide (e.f0 ≤ g) && (decide (0 ≤ e.f1) && decide (e.f1 ≤ 99)) && (!low || e.f1 == 0)
theorem inOk_iff {g : Int} {low : Bool} {e : S77} : inOk g low e = true ↔ 0 ≤ e.f0 ∧ e.f0 ≤ g ∧ 0 ≤ e.f1 ∧ e.f1 ≤ 99 ∧ (low = true → e.f1 = 0) := by
  cases low <;> simp [inOk, and_assoc]
def sumBits (l : List S77) : Nat := (l.map fun e => bl e.f0.toNat).sum
theorem sumBits_cons (e : S77) (l : List S77) : sumBits (e :: l) = bl e.f0.toNat + sumBits l := by simp [sumBits]
theorem sumBits_le (g : Int) (hg : g ≤ 255) (low : Bool) (l : List S77) (h : ∀ e ∈ l, inOk g low e = true) : sumBits l ≤ 8 * l.length := by
  induction l with
  | nil => simp [sumBits]
  | cons e l ih =>
    have h1 := inOk_iff.1 (h e (by simp))
    have h2 := ih (fun e' he => h e' (by simp [he]))
    have h3 := bl_le 8 e.f0.toNat (by omega)
    simp only [sumBits, List.map_cons, List.sum_cons, List.length_cons] at h2 ⊢
    omega
theorem specInputs_l (n : Nat) (hn : n ≤ 8) (a b : List S77) (t : Int) (c : List Int) (x : List S42) (l : List S77) (hl : l.length ≤ 1048576) (low : Bool) (d : Nat) : ∀ i : Nat, i + d = l.length → Ev (fun k => spec_l3Inputs.l0 k l low (i : Int) (n : Int) a b t c x) ((l.drop i).all (inOk (((2 ^ n : Nat) : Int) - 1) low) && decide (l.length ≤ 3)) := by
  have hp := pow8 n hn
  have hp1 : 1 ≤ 2 ^ n := Nat.one_le_two_pow
  induction d with
  | zero =>
    intro i hi
    refine Ev.step (fun k => by rw [spec_l3Inputs.l0]) ?_
    simp only [if_neg (show ¬ (i : Int) < (l.length : Int) by omega)]
    rw [List.drop_of_length_le (show l.length ≤ i by omega)]
    exact (Ev.now _).cast (by simp; omega)
  | succ d ih =>
    intro i hi
    refine Ev.step (fun k => by rw [spec_l3Inputs.l0]) ?_
    rw [rdIn_drop l i (by omega), List.all_cons]
    generalize rd_T77 l (i : Int) = e
    have no : inOk (((2 ^ n : Nat) : Int) - 1) low e = false → Ev (fun k => spec_l3Inputs.j1 k l low (i : Int) true (n : Int) a b t c x) ((inOk (((2 ^ n : Nat) : Int) - 1) low e && (l.drop (i + 1)).all (inOk (((2 ^ n : Nat) : Int) - 1) low)) && decide (l.length ≤ 3)) := by
      intro hh
      refine Ev.step (fun k => by rw [spec_l3Inputs.j1]) ?_
      simp only [if_true]
      exact (Ev.now _).cast (by rw [hh]; rfl)
    have yes : ∀ q : Bool, inOk (((2 ^ n : Nat) : Int) - 1) low e = !q → Ev (fun k => spec_l3Inputs.j1 k l low (i : Int) q (n : Int) a b t c x) ((inOk (((2 ^ n : Nat) : Int) - 1) low e && (l.drop (i + 1)).all (inOk (((2 ^ n : Nat) : Int) - 1) low)) && decide (l.length ≤ 3)) := by
      intro q hh
      cases q
      · refine Ev.step (fun k => by rw [spec_l3Inputs.j1]) ?_
        simp only [Bool.false_eq_true, if_false, wrap_succ (show i < 9223372036854775807 by omega)]
        exact (ih (i + 1) (by omega)).cast (by rw [hh]; simp)
      · exact no hh
    simp only [if_pos (show (i : Int) < (l.length : Int) by omega), if_pos (show 0 ≤ (i : Int) by omega)]
    refine Ev.bind (l3Size_ev n hn a b t c x) ?_
    simp only [l1In_eq, Option.bind_some, wrap_id (show -9223372036854775808 ≤ ((2 ^ n : Nat) : Int) - 1 by omega) (by omega)]
    by_cases c1 : (decide (0 ≤ e.f0) && decide (e.f0 ≤ ((2 ^ n : Nat) : Int) - 1)) = true
    · simp only [if_pos c1]
      by_cases c2 : (decide (0 ≤ e.f1) && decide (e.f1 ≤ 99)) = true
      · simp only [if_pos c2]
        cases low
        · simp only [Bool.false_eq_true, if_false]
          exact yes false (by simp only [inOk, c1, c2]; rfl)
        · simp only [if_true]
          refine yes _ ?_
          simp only [inOk, c1, c2]
          cases h : (e.f1 == 0) <;> simp [h, bne]
      · simp only [if_neg c2]
        refine no ?_
        rw [Bool.not_eq_true] at c2
        simp only [inOk, c2, Bool.and_false, Bool.false_and]
    · simp only [if_neg c1]
      refine no ?_
      rw [Bool.not_eq_true] at c1
      simp only [inOk, c1, Bool.false_and]
theorem specInputs_ev (n : Nat) (hn : n ≤ 8) (a b : List S77) (t : Int) (c : List Int) (x : List S42) (l : List S77) (hl : l.length ≤ 1048576) (low : Bool) : Ev (fun k => spec_l3Inputs.f k (n : Int) a b t c x l low) (l.all (inOk (((2 ^ n : Nat) : Int) - 1) low) && decide (l.length ≤ 3)) := by
  simp only [spec_l3Inputs.f]
  exact specInputs_l n hn a b t c x l hl low l.length 0 (by omega)
theorem specAllBits_l1 (g : Int) (hg : g ≤ 255) (w : Int) (a b : List S77) (t : Int) (c : List Int) (x : List S42) (low : Bool) (hb : ∀ e ∈ b, inOk g low e = true) (hl : b.length ≤ 3) (d : Nat) : ∀ i acc : Nat, i + d = b.length → acc + 8 * d ≤ 100 → Ev (fun k => spec_l3AllBits.l1 k (acc : Int) (i : Int) w a b t c x) ((acc + sumBits (b.drop i) : Nat) : Int) := by
  induction d with
  | zero =>
    intro i acc hi ha
    refine Ev.step (fun k => by rw [spec_l3AllBits.l1]) ?_
    simp only [if_neg (show ¬ (i : Int) < (b.length : Int) by omega)]
    rw [List.drop_of_length_le (show b.length ≤ i by omega)]
    exact (Ev.now _).cast (by simp [sumBits])
  | succ d ih =>
    intro i acc hi ha
    refine Ev.step (fun k => by rw [spec_l3AllBits.l1]) ?_
    have hm : b[i] ∈ b := List.getElem_mem _
    have h1 := inOk_iff.1 (hb _ hm)
    have h3 := bl_le 8 b[i].f0.toNat (by omega)
    simp only [if_pos (show (i : Int) < (b.length : Int) by omega), if_pos (show 0 ≤ (i : Int) by omega)]
    rw [rdIn_drop b i (by omega)]
    simp only [rdIn_at b i (by omega)]
    refine Ev.bind (specBits_ev _ h1.1 (by omega)) ?_
    rw [show wrap64 ((acc : Int) + ((bl b[i].f0.toNat : Nat) : Int)) = ((acc + bl b[i].f0.toNat : Nat) : Int) by rw [wrap_id (by omega) (by omega)]; omega]
    simp only [wrap_succ (show i < 9223372036854775807 by omega)]
    exact (ih (i + 1) (acc + bl b[i].f0.toNat) (by omega) (by omega)).cast (by simp only [sumBits, List.map_cons, List.sum_cons]; omega)
theorem specAllBits_l0 (g : Int) (hg : g ≤ 255) (w : Int) (a b : List S77) (t : Int) (c : List Int) (x : List S42) (ha : ∀ e ∈ a, inOk g true e = true) (hb : ∀ e ∈ b, inOk g false e = true) (hal : a.length ≤ 3) (hbl : b.length ≤ 3) (d : Nat) : ∀ i acc : Nat, i + d = a.length → acc + 8 * d ≤ 50 → Ev (fun k => spec_l3AllBits.l0 k (acc : Int) (i : Int) w a b t c x) ((acc + sumBits (a.drop i) + sumBits b : Nat) : Int) := by
  induction d with
  | zero =>
    intro i acc hi hac
    refine Ev.step (fun k => by rw [spec_l3AllBits.l0]) ?_
    simp only [if_neg (show ¬ (i : Int) < (a.length : Int) by omega)]
    rw [List.drop_of_length_le (show a.length ≤ i by omega)]
    exact (specAllBits_l1 g hg w a b t c x false hb hbl b.length 0 acc (by omega) (by omega)).cast (by simp [sumBits])
  | succ d ih =>
    intro i acc hi hac
    refine Ev.step (fun k => by rw [spec_l3AllBits.l0]) ?_
    have hm : a[i] ∈ a := List.getElem_mem _
    have h1 := inOk_iff.1 (ha _ hm)
    have h3 := bl_le 8 a[i].f0.toNat (by omega)
    simp only [if_pos (show (i : Int) < (a.length : Int) by omega), if_pos (show 0 ≤ (i : Int) by omega)]
    rw [rdIn_drop a i (by omega)]
    simp only [rdIn_at a i (by omega)]
    refine Ev.bind (specBits_ev _ h1.1 (by omega)) ?_
    rw [show wrap64 ((acc : Int) + ((bl a[i].f0.toNat : Nat) : Int)) = ((acc + bl a[i].f0.toNat : Nat) : Int) by rw [wrap_id (by omega) (by omega)]; omega]
    simp only [wrap_succ (show i < 9223372036854775807 by omega)]
    exact (ih (i + 1) (acc + bl a[i].f0.toNat) (by omega) (by omega)).cast (by simp only [sumBits, List.map_cons, List.sum_cons]; omega)
theorem implInput_l1 (n : Nat) (hn : n ≤ 8) (a b : List S77) (t : Int) (c : List Int) (x : List S42) (l : List S77) (hl : l.length ≤ 3) (d : Nat) : ∀ i acc : Nat, i + d = l.length → acc + 8 * d ≤ 100 → Ev (fun k => impl_inputRight.l1 k [(⟨(n : Int), a, b, t, c, x⟩ : S35)] (acc : Int) l (l.length : Int) (i : Int)) ((l.drop i).all (inOk (((2 ^ n : Nat) : Int) - 1) false) && decide (acc + sumBits (l.drop i) ≤ 10)) := by
  have hp := pow8 n hn
  induction d with
  | zero =>
    intro i acc hi ha
    refine Ev.step (fun k => by rw [impl_inputRight.l1]) ?_
    try simp only [rdPg]
    simp only [if_neg (show ¬ (i : Int) < (l.length : Int) by omega)]
    rw [List.drop_of_length_le (show l.length ≤ i by omega)]
    exact (Ev.now _).cast (by simp [sumBits]; omega)
  | succ d ih =>
    intro i acc hi ha
    refine Ev.step (fun k => by rw [impl_inputRight.l1]) ?_
    try simp only [rdPg]
    rw [rdIn_drop l i (by omega), List.all_cons]
    generalize rd_T77 l (i : Int) = e
    have no : ∀ u v : Int, inOk (((2 ^ n : Nat) : Int) - 1) false e = false → Ev (fun k => impl_inputRight.j4 k [(⟨(n : Int), a, b, t, c, x⟩ : S35)] (acc : Int) l (l.length : Int) (i : Int) true u v) ((inOk (((2 ^ n : Nat) : Int) - 1) false e && (l.drop (i + 1)).all (inOk (((2 ^ n : Nat) : Int) - 1) false)) && decide (acc + sumBits (e :: l.drop (i + 1)) ≤ 10)) := by
      intro u v hh
      refine Ev.step (fun k => by rw [impl_inputRight.j4]) ?_
      try simp only [rdPg]
      simp only [if_true]
      exact (Ev.now _).cast (by rw [hh]; rfl)
    simp only [if_pos (show (i : Int) < (l.length : Int) by omega), if_pos (show 0 ≤ (i : Int) by omega), greatest_eq n hn, Option.bind_some]
    by_cases c1 : e.f0 < 0
    · simp only [if_pos c1]
      exact no _ _ (by rw [← Bool.not_eq_true, inOk_iff]; omega)
    by_cases c2 : e.f0 > ((2 ^ n : Nat) : Int) - 1
    · simp only [if_neg c1, if_pos c2]
      exact no _ _ (by rw [← Bool.not_eq_true, inOk_iff]; omega)
    by_cases c3 : e.f1 < 0
    · simp only [if_neg c1, if_neg c2, if_pos c3]
      exact no _ _ (by rw [← Bool.not_eq_true, inOk_iff]; omega)
    simp only [if_neg c1, if_neg c2, if_neg c3]
    by_cases c4 : e.f1 > 99
    · simp only [decide_eq_true c4]
      exact no _ _ (by rw [← Bool.not_eq_true, inOk_iff]; omega)
    simp only [decide_eq_false c4]
    have hok : inOk (((2 ^ n : Nat) : Int) - 1) false e = true := inOk_iff.2 ⟨by omega, by omega, by omega, by omega, fun h => by cases h⟩
    have h3 := bl_le 8 e.f0.toNat (by omega)
    refine Ev.step (fun k => by rw [impl_inputRight.j4]) ?_
    try simp only [rdPg]
    simp only [Bool.false_eq_true, if_false]
    refine Ev.bind (implBits_ev _ (by omega) (by omega)) ?_
    rw [show wrap64 ((acc : Int) + ((bl e.f0.toNat : Nat) : Int)) = ((acc + bl e.f0.toNat : Nat) : Int) by rw [wrap_id (by omega) (by omega)]; omega]
    simp only [wrap_succ (show i < 9223372036854775807 by omega)]
    exact (ih (i + 1) (acc + bl e.f0.toNat) (by omega) (by omega)).cast (by rw [hok, sumBits_cons, Bool.true_and, Nat.add_assoc acc (bl e.f0.toNat)])
theorem implInput_l0 (n : Nat) (hn : n ≤ 8) (a b : List S77) (t : Int) (c : List Int) (x : List S42) (hb : b.length ≤ 3) (l : List S77) (hl : l.length ≤ 3) (d : Nat) : ∀ i acc : Nat, i + d = l.length → acc + 8 * d ≤ 50 → Ev (fun k => impl_inputRight.l0 k [(⟨(n : Int), a, b, t, c, x⟩ : S35)] (acc : Int) l (l.length : Int) (i : Int)) ((l.drop i).all (inOk (((2 ^ n : Nat) : Int) - 1) true) && (b.all (inOk (((2 ^ n : Nat) : Int) - 1) false) && decide (acc + sumBits (l.drop i) + sumBits b ≤ 10))) := by
  have hp := pow8 n hn
  induction d with
  | zero =>
    intro i acc hi ha
    refine Ev.step (fun k => by rw [impl_inputRight.l0]) ?_
    try simp only [rdPg]
    simp only [if_neg (show ¬ (i : Int) < (l.length : Int) by omega)]
    rw [List.drop_of_length_le (show l.length ≤ i by omega)]
    exact (implInput_l1 n hn a b t c x b hb b.length 0 acc (by omega) (by omega)).cast (by simp [sumBits])
  | succ d ih =>
    intro i acc hi ha
    refine Ev.step (fun k => by rw [impl_inputRight.l0]) ?_
    try simp only [rdPg]
    rw [rdIn_drop l i (by omega), List.all_cons]
    generalize rd_T77 l (i : Int) = e
    have no : ∀ u v : Int, inOk (((2 ^ n : Nat) : Int) - 1) true e = false → Ev (fun k => impl_inputRight.j2 k [(⟨(n : Int), a, b, t, c, x⟩ : S35)] (acc : Int) l (l.length : Int) (i : Int) true u v) ((inOk (((2 ^ n : Nat) : Int) - 1) true e && (l.drop (i + 1)).all (inOk (((2 ^ n : Nat) : Int) - 1) true)) && (b.all (inOk (((2 ^ n : Nat) : Int) - 1) false) && decide (acc + sumBits (e :: l.drop (i + 1)) + sumBits b ≤ 10))) := by
      intro u v hh
      refine Ev.step (fun k => by rw [impl_inputRight.j2]) ?_
      try simp only [rdPg]
      simp only [if_true]
      exact (Ev.now _).cast (by rw [hh]; rfl)
    simp only [if_pos (show (i : Int) < (l.length : Int) by omega), if_pos (show 0 ≤ (i : Int) by omega), greatest_eq n hn, Option.bind_some]
    by_cases c1 : e.f0 < 0
    · simp only [if_pos c1]
      exact no _ _ (by rw [← Bool.not_eq_true, inOk_iff]; omega)
    by_cases c2 : e.f0 > ((2 ^ n : Nat) : Int) - 1
    · simp only [if_neg c1, if_pos c2]
      exact no _ _ (by rw [← Bool.not_eq_true, inOk_iff]; omega)
    simp only [if_neg c1, if_neg c2]
    by_cases c4 : e.f1 = 0
    · have hok : inOk (((2 ^ n : Nat) : Int) - 1) true e = true := inOk_iff.2 ⟨by omega, by omega, by omega, by omega, fun _ => c4⟩
      have h3 := bl_le 8 e.f0.toNat (by omega)
      simp only [c4, bne_self_eq_false]
      refine Ev.step (fun k => by rw [impl_inputRight.j2]) ?_
      try simp only [rdPg]
      simp only [Bool.false_eq_true, if_false]
      refine Ev.bind (implBits_ev _ (by omega) (by omega)) ?_
      rw [show wrap64 ((acc : Int) + ((bl e.f0.toNat : Nat) : Int)) = ((acc + bl e.f0.toNat : Nat) : Int) by rw [wrap_id (by omega) (by omega)]; omega]
      simp only [wrap_succ (show i < 9223372036854775807 by omega)]
      exact (ih (i + 1) (acc + bl e.f0.toNat) (by omega) (by omega)).cast (by rw [hok, sumBits_cons, Bool.true_and, Nat.add_assoc acc (bl e.f0.toNat)])
    · simp only [bne_iff_ne.2 c4]
      exact no _ _ (by rw [← Bool.not_eq_true, inOk_iff]; intro h; exact c4 (h.2.2.2.2 rfl))
/-- The inputs are right. -/
def insOk (n : Nat) (a b : List S77) : Bool := decide (a.length ≤ 3) && decide (b.length ≤ 3) && (a.all (inOk (((2 ^ n : Nat) : Int) - 1) true) && (b.all (inOk (((2 ^ n : Nat) : Int) - 1) false) && decide (sumBits a + sumBits b ≤ 10)))
theorem implInput_ev (n : Nat) (hn : n ≤ 8) (a b : List S77) (t : Int) (c : List Int) (x : List S42) : Ev (fun k => impl_inputRight.f k [(⟨(n : Int), a, b, t, c, x⟩ : S35)]) (insOk n a b) := by
  simp only [impl_inputRight.f, rdPg]
  have no : (decide (a.length ≤ 3) && decide (b.length ≤ 3)) = false → Ev (fun k => impl_inputRight.j0 k [(⟨(n : Int), a, b, t, c, x⟩ : S35)] true) (insOk n a b) := by
    intro h
    refine Ev.step (fun k => by rw [impl_inputRight.j0]) ?_
    try simp only [rdPg]
    simp only [if_true]
    exact (Ev.now _).cast (by rw [insOk, h]; rfl)
  by_cases c1 : (a.length : Int) > 3
  · simp only [if_pos c1]; exact no (by simp; omega)
  simp only [if_neg c1]
  by_cases c2 : (b.length : Int) > 3
  · simp only [decide_eq_true c2]; exact no (by simp; omega)
  simp only [decide_eq_false c2]
  refine Ev.step (fun k => by rw [impl_inputRight.j0]) ?_
  try simp only [rdPg]
  simp only [Bool.false_eq_true, if_false]
  exact (implInput_l0 n hn a b t c x (by omega) a (by omega) a.length 0 0 (by omega) (by omega)).cast (by simp only [insOk, decide_eq_true (show a.length ≤ 3 by omega), decide_eq_true (show b.length ≤ 3 by omega), Bool.true_and, List.drop_zero, Nat.zero_add])
/-! Room. -/
def cellOk (v : Int) : Bool := decide (1 ≤ v) && decide (v ≤ 6)
def roomOk (t : Int) (c : List Int) (x : List S42) : Bool := (decide (0 ≤ t) && decide (t ≤ 6)) && (decide (c.length ≤ 2) && (decide (x.length ≤ 40) && c.all cellOk))
theorem specRoom_l0 (w : Int) (a b : List S77) (t : Int) (c : List Int) (x : List S42) (hc : c.length ≤ 1048576) (d : Nat) : ∀ i : Nat, i + d = c.length → Ev (fun k => spec_l3Room.l0 k (i : Int) w a b t c x) ((c.drop i).all cellOk) := by
  induction d with
  | zero =>
    intro i hi
    refine Ev.step (fun k => by rw [spec_l3Room.l0]) ?_
    simp only [if_neg (show ¬ (i : Int) < (c.length : Int) by omega)]
    rw [List.drop_of_length_le (show c.length ≤ i by omega)]
    exact Ev.now _
  | succ d ih =>
    intro i hi
    refine Ev.step (fun k => by rw [spec_l3Room.l0]) ?_
    rw [drop_rd c i (by omega), List.all_cons]
    simp only [if_pos (show (i : Int) < (c.length : Int) by omega), if_pos (show 0 ≤ (i : Int) by omega), l1In_eq, Option.bind_some, wrap_succ (show i < 9223372036854775807 by omega)]
    by_cases h : (decide (1 ≤ rd c (i : Int)) && decide (rd c (i : Int) ≤ 6)) = true
    · simp only [if_pos h]
      exact (ih (i + 1) (by omega)).cast (by rw [cellOk, h, Bool.true_and])
    · simp only [if_neg h]
      exact (Ev.now _).cast (by rw [Bool.not_eq_true] at h; rw [cellOk, h, Bool.false_and])
theorem implRoom_l0 (c : List Int) (hc : c.length ≤ 1048576) (d : Nat) : ∀ i : Nat, i + d = c.length → Ev (fun k => impl_roomRight.l0 k c (c.length : Int) (i : Int)) ((c.drop i).all cellOk) := by
  induction d with
  | zero =>
    intro i hi
    refine Ev.step (fun k => by rw [impl_roomRight.l0]) ?_
    try simp only [rdPg]
    simp only [if_neg (show ¬ (i : Int) < (c.length : Int) by omega)]
    rw [List.drop_of_length_le (show c.length ≤ i by omega)]
    exact Ev.now _
  | succ d ih =>
    intro i hi
    refine Ev.step (fun k => by rw [impl_roomRight.l0]) ?_
    try simp only [rdPg]
    rw [drop_rd c i (by omega), List.all_cons]
    simp only [if_pos (show (i : Int) < (c.length : Int) by omega), if_pos (show 0 ≤ (i : Int) by omega), wrap_succ (show i < 9223372036854775807 by omega)]
    by_cases h1 : rd c (i : Int) < 1
    · simp only [if_pos h1]
      exact (Ev.now _).cast (by rw [cellOk, decide_eq_false (show ¬ 1 ≤ rd c (i : Int) by omega)]; rfl)
    by_cases h2 : rd c (i : Int) > 6
    · simp only [if_neg h1, if_pos h2]
      exact (Ev.now _).cast (by rw [cellOk, decide_eq_false (show ¬ rd c (i : Int) ≤ 6 by omega), Bool.and_false]; rfl)
    simp only [if_neg h1, if_neg h2]
    exact (ih (i + 1) (by omega)).cast (by rw [cellOk, decide_eq_true (show 1 ≤ rd c (i : Int) by omega), decide_eq_true (show rd c (i : Int) ≤ 6 by omega)]; rfl)
theorem specRoom_ev (w : Int) (a b : List S77) (t : Int) (c : List Int) (x : List S42) : Ev (fun k => spec_l3Room.f k w a b t c x) (roomOk t c x) := by
  simp only [spec_l3Room.f, l1In_eq, Option.bind_some]
  have no : ∀ r : Bool, r = false → Ev (fun k => spec_l3Room.j0 k true w a b t c x) r := by
    intro r hr
    subst hr
    refine Ev.step (fun k => by rw [spec_l3Room.j0]) ?_
    simp only [if_true]; exact Ev.now _
  by_cases h1 : (decide (0 ≤ t) && decide (t ≤ 6)) = true
  · simp only [if_pos h1]
    by_cases h2 : (c.length : Int) > 2
    · simp only [if_pos h2]
      exact no _ (by rw [roomOk, decide_eq_false (show ¬ c.length ≤ 2 by omega), Bool.false_and, Bool.and_false])
    simp only [if_neg h2]
    by_cases h3 : (x.length : Int) > 40
    · simp only [decide_eq_true h3]
      exact no _ (by rw [roomOk, decide_eq_false (show ¬ x.length ≤ 40 by omega), Bool.false_and, Bool.and_false, Bool.and_false])
    simp only [decide_eq_false h3]
    refine Ev.step (fun k => by rw [spec_l3Room.j0]) ?_
    simp only [Bool.false_eq_true, if_false]
    exact (specRoom_l0 w a b t c x (by omega) c.length 0 (by omega)).cast (by rw [roomOk, h1, decide_eq_true (show c.length ≤ 2 by omega), decide_eq_true (show x.length ≤ 40 by omega)]; rfl)
  · simp only [if_neg h1]
    exact no _ (by rw [Bool.not_eq_true] at h1; rw [roomOk, h1, Bool.false_and])
theorem implRoom_ev (w : Int) (a b : List S77) (t : Int) (c : List Int) (x : List S42) : Ev (fun k => impl_roomRight.f k [(⟨w, a, b, t, c, x⟩ : S35)]) (roomOk t c x) := by
  simp only [impl_roomRight.f, rdPg]
  have no : ∀ r : Bool, r = false → Ev (fun k => impl_roomRight.j0 k [(⟨w, a, b, t, c, x⟩ : S35)] true) r := by
    intro r hr
    subst hr
    refine Ev.step (fun k => by rw [impl_roomRight.j0]) ?_
    try simp only [rdPg]
    simp only [if_true]; exact Ev.now _
  by_cases h0 : t < 0
  · simp only [if_pos h0]
    exact no _ (by rw [roomOk, decide_eq_false (show ¬ 0 ≤ t by omega), Bool.false_and, Bool.false_and])
  by_cases h1 : t > 6
  · simp only [if_neg h0, if_pos h1]
    exact no _ (by rw [roomOk, decide_eq_false (show ¬ t ≤ 6 by omega), Bool.and_false, Bool.false_and])
  by_cases h2 : (c.length : Int) > 2
  · simp only [if_neg h0, if_neg h1, if_pos h2]
    exact no _ (by rw [roomOk, decide_eq_false (show ¬ c.length ≤ 2 by omega), Bool.false_and, Bool.and_false])
  simp only [if_neg h0, if_neg h1, if_neg h2]
  by_cases h3 : (x.length : Int) > 40
  · simp only [decide_eq_true h3]
    exact no _ (by rw [roomOk, decide_eq_false (show ¬ x.length ≤ 40 by omega), Bool.false_and, Bool.and_false, Bool.and_false])
  simp only [decide_eq_false h3]
  refine Ev.step (fun k => by rw [impl_roomRight.j0]) ?_
  try simp only [rdPg]
  simp only [Bool.false_eq_true, if_false]
  exact (implRoom_l0 c (by omega) c.length 0 (by omega)).cast (by rw [roomOk, decide_eq_true (show 0 ≤ t by omega), decide_eq_true (show t ≤ 6 by omega), decide_eq_true (show c.length ≤ 2 by omega), decide_eq_true (show x.length ≤ 40 by omega)]; rfl)
/-! Expressions. -/
def nmOk (g v r : Int) (e : S100) : Bool := if e.f0 = 0 then decide (e.f1 ≤ g) else if e.f0 = 1 then decide (e.f1 < v) else if e.f0 = 2 then decide (e.f1 < r) else true
def expR (g v r : Int) (l : List S100) : Bool := decide (l.length ≤ 40) && ((l.all fun e => !(e.f0 == 17)) && (expOk (l.map tmI) && l.all (nmOk g v r)))
theorem expR_pos {g v r : Int} {l : List S100} (h : expR g v r l = true) : 0 < l.length := by
  cases l with
  | nil => simp [expR, expOk, hgt] at h
  | cons e l => simp
theorem specVars_eq (w : Int) (a b : List S77) (t : Int) (c : List Int) (x : List S42) (ha : a.length ≤ 3) (hb : b.length ≤ 3) (h0 : 0 ≤ t) (h1 : t ≤ 6) : spec_l3Vars.f w a b t c x = some ((a.length : Int) + (b.length : Int) + t) := by
  simp only [spec_l3Vars.f]
  rw [wrap_id (x := (a.length : Int) + (b.length : Int)) (by omega) (by omega), wrap_id (by omega) (by omega)]
theorem implInputs_eq (w : Int) (a b : List S77) (t : Int) (c : List Int) (x : List S42) (ha : a.length ≤ 3) (hb : b.length ≤ 3) : impl_inputsOf.f [(⟨w, a, b, t, c, x⟩ : S35)] = some ((a.length : Int) + (b.length : Int)) := by
  simp only [impl_inputsOf.f, rdPg]
  rw [wrap_id (x := (a.length : Int) + (b.length : Int)) (by omega) (by omega)]
theorem implVars_eq (w : Int) (a b : List S77) (t : Int) (c : List Int) (x : List S42) (ha : a.length ≤ 3) (hb : b.length ≤ 3) (h0 : 0 ≤ t) (h1 : t ≤ 6) : impl_varsOf.f [(⟨w, a, b, t, c, x⟩ : S35)] = some ((a.length : Int) + (b.length : Int) + t) := by
  simp only [impl_varsOf.f, rdPg]
  simp only [implInputs_eq w a b t c x ha hb, Option.bind_some]
  rw [wrap_id (by omega) (by omega)]
/-- The variables that there are. -/
def vrs (a b : List S77) (t : Int) : Int := (a.length : Int) + (b.length : Int) + t
theorem specNames_l (n : Nat) (hn : n ≤ 8) (a b : List S77) (t : Int) (c : List Int) (x : List S42) (ha : a.length ≤ 3) (hb : b.length ≤ 3) (h0 : 0 ≤ t) (h1 : t ≤ 6) (l : List S100) (hl : l.length ≤ 1048576) (d : Nat) : ∀ i : Nat, i + d = l.length → Ev (fun k => spec_l3Names.l0 k l (i : Int) (n : Int) a b t c x) ((l.drop i).all (nmOk (((2 ^ n : Nat) : Int) - 1) (vrs a b t) (c.length : Int))) := by
  induction d with
  | zero =>
    intro i hi
    refine Ev.step (fun k => by rw [spec_l3Names.l0]) ?_
    simp only [if_neg (show ¬ (i : Int) < (l.length : Int) by omega)]
    rw [List.drop_of_length_le (show l.length ≤ i by omega)]
    exact Ev.now _
  | succ d ih =>
    intro i hi
    have ih' := ih (i + 1) (by omega)
    refine Ev.step (fun k => by rw [spec_l3Names.l0]) ?_
    rw [rdTm_drop l i (by omega), List.all_cons]
    generalize rd_T100 l (i : Int) = e
    simp only [if_pos (show (i : Int) < (l.length : Int) by omega), if_pos (show 0 ≤ (i : Int) by omega), specVars_eq (n : Int) a b t c x ha hb h0 h1, Option.bind_some, wrap_succ (show i < 9223372036854775807 by omega)]
    by_cases c0 : e.f0 = 0
    · simp only [if_pos c0]
      refine Ev.bind (l3Size_ev n hn a b t c x) ?_
      by_cases cc : e.f1 ≥ ((2 ^ n : Nat) : Int)
      · simp only [if_pos cc]
        exact (Ev.now _).cast (by rw [nmOk, if_pos c0, decide_eq_false (show ¬ e.f1 ≤ ((2 ^ n : Nat) : Int) - 1 by omega), Bool.false_and])
      · simp only [if_neg cc]
        exact ih'.cast (by rw [nmOk, if_pos c0, decide_eq_true (show e.f1 ≤ ((2 ^ n : Nat) : Int) - 1 by omega), Bool.true_and])
    by_cases c1 : e.f0 = 1
    · simp only [if_neg c0, if_pos c1]
      by_cases cc : e.f1 ≥ (a.length : Int) + (b.length : Int) + t
      · simp only [if_pos cc]
        exact (Ev.now _).cast (by rw [nmOk, if_neg c0, if_pos c1, decide_eq_false (show ¬ e.f1 < vrs a b t by unfold vrs; omega), Bool.false_and])
      · simp only [if_neg cc]
        exact ih'.cast (by rw [nmOk, if_neg c0, if_pos c1, decide_eq_true (show e.f1 < vrs a b t by unfold vrs; omega), Bool.true_and])
    by_cases c2 : e.f0 = 2
    · simp only [if_neg c0, if_neg c1, if_pos c2]
      by_cases cc : e.f1 ≥ (c.length : Int)
      · simp only [if_pos cc]
        exact (Ev.now _).cast (by rw [nmOk, if_neg c0, if_neg c1, if_pos c2, decide_eq_false (show ¬ e.f1 < (c.length : Int) by omega), Bool.false_and])
      · simp only [if_neg cc]
        exact ih'.cast (by rw [nmOk, if_neg c0, if_neg c1, if_pos c2, decide_eq_true (show e.f1 < (c.length : Int) by omega), Bool.true_and])
    simp only [if_neg c0, if_neg c1, if_neg c2]
    exact ih'.cast (by rw [nmOk, if_neg c0, if_neg c1, if_neg c2, Bool.true_and])
theorem implReck_l (n : Nat) (hn : n ≤ 8) (a b : List S77) (t : Int) (c : List Int) (x : List S42) (ha : a.length ≤ 3) (hb : b.length ≤ 3) (h0 : 0 ≤ t) (h1 : t ≤ 6) (l : List S100) (hl : l.length ≤ 1048576) (d : Nat) : ∀ i : Nat, i + d = l.length → Ev (fun k => impl_reckonable.l0 k [(⟨(n : Int), a, b, t, c, x⟩ : S35)] l (l.length : Int) (i : Int)) ((l.drop i).all (nmOk (((2 ^ n : Nat) : Int) - 1) (vrs a b t) (c.length : Int))) := by
  induction d with
  | zero =>
    intro i hi
    refine Ev.step (fun k => by rw [impl_reckonable.l0]) ?_
    try simp only [rdPg]
    simp only [if_neg (show ¬ (i : Int) < (l.length : Int) by omega)]
    rw [List.drop_of_length_le (show l.length ≤ i by omega)]
    exact Ev.now _
  | succ d ih =>
    intro i hi
    have ih' := ih (i + 1) (by omega)
    refine Ev.step (fun k => by rw [impl_reckonable.l0]) ?_
    try simp only [rdPg]
    rw [rdTm_drop l i (by omega), List.all_cons]
    generalize rd_T100 l (i : Int) = e
    simp only [if_pos (show (i : Int) < (l.length : Int) by omega), if_pos (show 0 ≤ (i : Int) by omega), implVars_eq (n : Int) a b t c x ha hb h0 h1, greatest_eq n hn, Option.bind_some, wrap_succ (show i < 9223372036854775807 by omega)]
    by_cases c0 : e.f0 = 0
    · simp only [if_pos c0]
      by_cases cc : e.f1 > ((2 ^ n : Nat) : Int) - 1
      · simp only [if_pos cc]
        exact (Ev.now _).cast (by rw [nmOk, if_pos c0, decide_eq_false (show ¬ e.f1 ≤ ((2 ^ n : Nat) : Int) - 1 by omega), Bool.false_and])
      · simp only [if_neg cc]
        exact ih'.cast (by rw [nmOk, if_pos c0, decide_eq_true (show e.f1 ≤ ((2 ^ n : Nat) : Int) - 1 by omega), Bool.true_and])
    by_cases c1 : e.f0 = 1
    · simp only [if_neg c0, if_pos c1]
      by_cases cc : e.f1 ≥ (a.length : Int) + (b.length : Int) + t
      · simp only [if_pos cc]
        exact (Ev.now _).cast (by rw [nmOk, if_neg c0, if_pos c1, decide_eq_false (show ¬ e.f1 < vrs a b t by unfold vrs; omega), Bool.false_and])
      · simp only [if_neg cc]
        exact ih'.cast (by rw [nmOk, if_neg c0, if_pos c1, decide_eq_true (show e.f1 < vrs a b t by unfold vrs; omega), Bool.true_and])
    by_cases c2 : e.f0 = 2
    · simp only [if_neg c0, if_neg c1, if_pos c2]
      by_cases cc : e.f1 ≥ (c.length : Int)
      · simp only [if_pos cc]
        exact (Ev.now _).cast (by rw [nmOk, if_neg c0, if_neg c1, if_pos c2, decide_eq_false (show ¬ e.f1 < (c.length : Int) by omega), Bool.false_and])
      · simp only [if_neg cc]
        exact ih'.cast (by rw [nmOk, if_neg c0, if_neg c1, if_pos c2, decide_eq_true (show e.f1 < (c.length : Int) by omega), Bool.true_and])
    simp only [if_neg c0, if_neg c1, if_neg c2]
    exact ih'.cast (by rw [nmOk, if_neg c0, if_neg c1, if_neg c2, Bool.true_and])
/-- What is known of a Prog whose inputs and room are right. -/
structure Rt (n : Nat) (a b : List S77) (t : Int) : Prop where
  hn : n ≤ 8
  ha : a.length ≤ 3
  hb : b.length ≤ 3
  h0 : 0 ≤ t
  h1 : t ≤ 6
def exR (n : Nat) (a b : List S77) (t : Int) (c : List Int) (l : List S100) : Bool := expR (((2 ^ n : Nat) : Int) - 1) (vrs a b t) (c.length : Int) l
theorem specNames_ev {n : Nat} {a b : List S77} {t : Int} (h : Rt n a b t) (c : List Int) (x : List S42) (l : List S100) (hl : l.length ≤ 1048576) : Ev (fun k => spec_l3Names.f k (n : Int) a b t c x l) (expOk (l.map tmI) && l.all (nmOk (((2 ^ n : Nat) : Int) - 1) (vrs a b t) (c.length : Int))) := by
  simp only [spec_l3Names.f]
  refine Ev.bind (specExpOk_ev l hl) ?_
  by_cases e : expOk (l.map tmI) = true
  · simp only [if_pos e]
    exact (specNames_l n h.hn a b t c x h.ha h.hb h.h0 h.h1 l hl l.length 0 (by omega)).cast (by rw [e, List.drop_zero, Bool.true_and])
  · simp only [if_neg e]
    exact (Ev.now _).cast (by rw [Bool.not_eq_true] at e; rw [e, Bool.false_and])
theorem implReck_ev {n : Nat} {a b : List S77} {t : Int} (h : Rt n a b t) (c : List Int) (x : List S42) (l : List S100) (hl : l.length ≤ 1048576) : Ev (fun k => impl_reckonable.f k [(⟨(n : Int), a, b, t, c, x⟩ : S35)] l) (expOk (l.map tmI) && l.all (nmOk (((2 ^ n : Nat) : Int) - 1) (vrs a b t) (c.length : Int))) := by
  simp only [impl_reckonable.f, rdPg]
  refine Ev.bind (implExpOk_ev l) ?_
  by_cases e : expOk (l.map tmI) = true
  · simp only [if_pos e]
    exact (implReck_l n h.hn a b t c x h.ha h.hb h.h0 h.h1 l hl l.length 0 (by omega)).cast (by rw [e, List.drop_zero, Bool.true_and])
  · simp only [if_neg e]
    exact (Ev.now _).cast (by rw [Bool.not_eq_true] at e; rw [e, Bool.false_and])
theorem specExp_l {n : Nat} {a b : List S77} {t : Int} (h : Rt n a b t) (c : List Int) (x : List S42) (l : List S100) (hl : l.length ≤ 1048576) (d : Nat) : ∀ i : Nat, i + d = l.length → Ev (fun k => spec_l3Exp.l0 k l (i : Int) (n : Int) a b t c x) (((l.drop i).all fun e => !(e.f0 == 17)) && (decide (l.length ≤ 40) && (expOk (l.map tmI) && l.all (nmOk (((2 ^ n : Nat) : Int) - 1) (vrs a b t) (c.length : Int))))) := by
  induction d with
  | zero =>
    intro i hi
    refine Ev.step (fun k => by rw [spec_l3Exp.l0]) ?_
    simp only [if_neg (show ¬ (i : Int) < (l.length : Int) by omega)]
    rw [List.drop_of_length_le (show l.length ≤ i by omega), List.all_nil, Bool.true_and]
    by_cases c4 : (l.length : Int) ≤ 40
    · simp only [if_pos c4, decide_eq_true (show l.length ≤ 40 by omega), Bool.true_and]
      refine Ev.bind (specNames_ev h c x l hl) ?_
      exact Ev.now _
    · simp only [if_neg c4, decide_eq_false (show ¬ l.length ≤ 40 by omega), Bool.false_and]
      exact Ev.now _
  | succ d ih =>
    intro i hi
    refine Ev.step (fun k => by rw [spec_l3Exp.l0]) ?_
    rw [rdTm_drop l i (by omega), List.all_cons]
    generalize rd_T100 l (i : Int) = e
    simp only [if_pos (show (i : Int) < (l.length : Int) by omega), if_pos (show 0 ≤ (i : Int) by omega), wrap_succ (show i < 9223372036854775807 by omega)]
    by_cases c7 : e.f0 = 17
    · simp only [if_pos c7, beq_iff_eq.2 c7, Bool.not_true, Bool.false_and]
      exact Ev.now _
    · simp only [if_neg c7, beq_eq_false_iff_ne.2 c7, Bool.not_false, Bool.true_and]
      exact ih (i + 1) (by omega)
theorem specExp_ev {n : Nat} {a b : List S77} {t : Int} (h : Rt n a b t) (c : List Int) (x : List S42) (l : List S100) (hl : l.length ≤ 1048576) : Ev (fun k => spec_l3Exp.f k (n : Int) a b t c x l) (exR n a b t c l) := by
  simp only [spec_l3Exp.f]
  exact (specExp_l h c x l hl l.length 0 (by omega)).cast (by rw [exR, expR, List.drop_zero, Bool.and_left_comm])
theorem implStand_l (l : List S100) (hl : l.length ≤ 1048576) (d : Nat) : ∀ i : Nat, i + d = l.length → Ev (fun k => impl_mayStand.l0 k l (l.length : Int) (i : Int)) ((l.drop i).all fun e => !(e.f0 == 17)) := by
  induction d with
  | zero =>
    intro i hi
    refine Ev.step (fun k => by rw [impl_mayStand.l0]) ?_
    try simp only [rdPg]
    simp only [if_neg (show ¬ (i : Int) < (l.length : Int) by omega)]
    rw [List.drop_of_length_le (show l.length ≤ i by omega)]
    exact Ev.now _
  | succ d ih =>
    intro i hi
    refine Ev.step (fun k => by rw [impl_mayStand.l0]) ?_
    try simp only [rdPg]
    rw [rdTm_drop l i (by omega), List.all_cons]
    generalize rd_T100 l (i : Int) = e
    simp only [if_pos (show (i : Int) < (l.length : Int) by omega), if_pos (show 0 ≤ (i : Int) by omega), wrap_succ (show i < 9223372036854775807 by omega)]
    by_cases c7 : e.f0 = 17
    · simp only [if_pos c7, beq_iff_eq.2 c7, Bool.not_true, Bool.false_and]
      exact Ev.now _
    · simp only [if_neg c7, beq_eq_false_iff_ne.2 c7, Bool.not_false, Bool.true_and]
      exact ih (i + 1) (by omega)
theorem implStand_ev {n : Nat} {a b : List S77} {t : Int} (h : Rt n a b t) (c : List Int) (x : List S42) (l : List S100) (hl : l.length ≤ 1048576) : Ev (fun k => impl_mayStand.f k [(⟨(n : Int), a, b, t, c, x⟩ : S35)] l) (exR n a b t c l) := by
  simp only [impl_mayStand.f, rdPg]
  have no : ∀ r : Bool, r = false → Ev (fun k => impl_mayStand.j0 k l true) r := by
    intro r hr
    subst hr
    refine Ev.step (fun k => by rw [impl_mayStand.j0]) ?_
    try simp only [rdPg]
    simp only [if_true]; exact Ev.now _
  by_cases c4 : (l.length : Int) > 40
  · simp only [if_pos c4]
    exact no _ (by rw [exR, expR, decide_eq_false (show ¬ l.length ≤ 40 by omega), Bool.false_and])
  simp only [if_neg c4]
  refine Ev.bind (implReck_ev h c x l hl) ?_
  cases e : (expOk (l.map tmI) && l.all (nmOk (((2 ^ n : Nat) : Int) - 1) (vrs a b t) (c.length : Int)))
  · exact no _ (by rw [exR, expR, e, Bool.and_false, Bool.and_false])
  · refine Ev.step (fun k => by rw [impl_mayStand.j0]) ?_
    try simp only [rdPg]
    simp only [Bool.not_true, Bool.false_eq_true, if_false]
    exact (implStand_l l hl l.length 0 (by omega)).cast (by rw [exR, expR, e, decide_eq_true (show l.length ≤ 40 by omega), List.drop_zero, Bool.true_and, Bool.and_true])

end Go.Proofs.Ytbjmhdoagjmmcaa.Pure
