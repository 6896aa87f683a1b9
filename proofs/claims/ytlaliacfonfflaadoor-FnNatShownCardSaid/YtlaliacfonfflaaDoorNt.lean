/- Numbers to base 10000, lowest digits first: dg n are the digits of n, without noughts at the end. Plain Lean, no program in sight. -/
import Derived.Test.YtlaliacfonfflaaDoorBs
namespace Go.Proofs.YtlaliacfonfflaaDoor.Bs
open Go.RowKit Go.Proofs.YtlaliacfonfflaaDoorW.PrintWords Go.Proofs.YtlaliacfonfflaaDoorW.PrintLast
set_option linter.unusedVariables false
set_option linter.unusedSimpArgs false

def dg (n : Nat) : List Int := if h : n = 0 then [] else ((n % 10000 : Nat) : Int) :: dg (n / 10000)
termination_by n
decreasing_by omega
theorem dg_zero : dg 0 = [] := by rw [dg]; simp
theorem dg_pos {n : Nat} (h : 0 < n) : dg n = ((n % 10000 : Nat) : Int) :: dg (n / 10000) := by
  rw [dg, dif_neg (by omega)]
theorem dg_nil {n : Nat} : dg n = [] ↔ n = 0 := by
  rcases Nat.eq_zero_or_pos n with h | h
  · subst h; simp [dg_zero]
  · rw [dg_pos h]; constructor
    · intro e; cases e
    · intro e; omega

/-- All of them are digits. -/
def dok (l : List Int) : Prop := ∀ x ∈ l, 0 ≤ x ∧ x < 10000
theorem dok_nil : dok [] := by intro x hx; cases hx
theorem dok_cons {x : Int} {l : List Int} : dok (x :: l) ↔ (0 ≤ x ∧ x < 10000) ∧ dok l := by
  simp [dok]
theorem dok_append {a b : List Int} : dok (a ++ b) ↔ dok a ∧ dok b := by
  simp only [dok, List.mem_append]
  constructor
  · intro h; exact ⟨fun x hx => h x (.inl hx), fun x hx => h x (.inr hx)⟩
  · rintro ⟨h1, h2⟩ x (hx | hx)
    · exact h1 x hx
    · exact h2 x hx
theorem dg_ok (n : Nat) : dok (dg n) := by
  induction n using Nat.strongRecOn with
  | ind n ih =>
    rcases Nat.eq_zero_or_pos n with h | h
    · subst h; rw [dg_zero]; exact dok_nil
    · rw [dg_pos h, dok_cons]; exact ⟨by omega, ih _ (by omega)⟩

/-- What digits (or sums of them) stand for. -/
def nv : List Int → Nat
  | [] => 0
  | x :: l => x.toNat + 10000 * nv l
theorem nv_dg (n : Nat) : nv (dg n) = n := by
  induction n using Nat.strongRecOn with
  | ind n ih =>
    rcases Nat.eq_zero_or_pos n with h | h
    · subst h; rw [dg_zero]; rfl
    · rw [dg_pos h, nv, ih _ (by omega)]; omega
theorem dg_inj {m n : Nat} (h : dg m = dg n) : m = n := by rw [← nv_dg m, ← nv_dg n, h]

/-- Without noughts at the end. -/
def tr : List Int → List Int
  | [] => []
  | x :: l => if tr l = [] then (if x = 0 then [] else [x]) else x :: tr l
theorem tr_dg {l : List Int} (h : dok l) : tr l = dg (nv l) := by
  induction l with
  | nil => simp [tr, nv, dg_zero]
  | cons x l ih =>
    rw [dok_cons] at h
    have ih := ih h.2
    rw [tr, ih, nv]
    by_cases hl : nv l = 0
    · rw [if_pos (by rw [hl, dg_zero])]
      by_cases hx : x = 0
      · subst hx; simp [hl, dg_zero]
      · rw [if_neg hx, hl, dg_pos (by omega)]
        have : (x.toNat + 10000 * 0) / 10000 = 0 := by omega
        rw [this, dg_zero]
        congr 1; omega
    · rw [if_neg (by rw [dg_nil]; exact hl), dg_pos (n := x.toNat + 10000 * nv l) (by omega)]
      have : (x.toNat + 10000 * nv l) / 10000 = nv l := by omega
      rw [this]
      congr 1; omega
theorem tr_snoc0 (l : List Int) : tr (l ++ [0]) = tr l := by
  induction l with
  | nil => simp [tr]
  | cons x l ih => simp only [List.cons_append, tr, ih]
theorem tr_snoc {x : Int} (hx : x ≠ 0) (l : List Int) : tr (l ++ [x]) = l ++ [x] := by
  induction l with
  | nil => simp [tr, hx]
  | cons y l ih => simp only [List.cons_append, tr, ih]; simp

/-- NatOk, as a word. -/
def nok (l : List Int) : Bool := (l.all fun x => decide (0 ≤ x) && decide (x ≤ 9999)) && decide (l.length ≤ 100) && (l.isEmpty || rd l ((l.length : Int) - 1) != 0)

theorem nok_tr {l : List Int} (h : dok l) (hn : l = [] ∨ rd l ((l.length : Int) - 1) ≠ 0) : l = dg (nv l) := by
  rcases hn with hn | hn
  · subst hn; simp [nv, dg_zero]
  · rcases List.eq_nil_or_concat l with e | ⟨l', x, e⟩
    · subst e; simp [nv, dg_zero]
    · subst e
      have hx : x ≠ 0 := by
        intro hx; apply hn; subst hx
        simp [rd]
      rw [← tr_dg h, List.concat_eq_append, tr_snoc hx]
theorem dg_last {n : Nat} (h : 0 < n) : rd (dg n) (((dg n).length : Int) - 1) ≠ 0 := by
  induction n using Nat.strongRecOn with
  | ind n ih =>
    rw [dg_pos h]
    rcases Nat.eq_zero_or_pos (n / 10000) with h1 | h1
    · rw [h1, dg_zero]; simp [rd]; omega
    · have := ih _ (by omega) h1
      have hl : 0 < (dg (n / 10000)).length := by
        rw [dg_pos h1]; simp
      intro e; apply this; rw [← e]
      simp only [rd, List.length_cons]
      have e1 : (((dg (n / 10000)).length + 1 : Nat) : Int) - 1 = (((dg (n / 10000)).length - 1 + 1 : Nat) : Int) := by omega
      have e2 : ((dg (n / 10000)).length : Int) - 1 = (((dg (n / 10000)).length - 1 : Nat) : Int) := by omega
      rw [e1, e2]
      simp only [Int.toNat_natCast, List.getD_cons_succ]
theorem nok_iff {l : List Int} : nok l = true ↔ l = dg (nv l) ∧ l.length ≤ 100 := by
  simp only [nok, Bool.and_eq_true, Bool.or_eq_true, List.all_eq_true, decide_eq_true_eq, List.isEmpty_iff, bne_iff_ne]
  constructor
  · rintro ⟨⟨h1, h2⟩, h3⟩
    exact ⟨nok_tr (fun x hx => by have := h1 x hx; omega) h3, h2⟩
  · rintro ⟨h1, h2⟩
    refine ⟨⟨fun x hx => ?_, h2⟩, ?_⟩
    · rw [h1] at hx; have := dg_ok _ x hx; omega
    · rcases Nat.eq_zero_or_pos (nv l) with h | h
      · left; rw [h1, h, dg_zero]
      · right; rw [h1]; exact dg_last h
theorem nok_dg {n : Nat} : nok (dg n) = decide ((dg n).length ≤ 100) := by
  rw [Bool.eq_iff_iff, nok_iff, nv_dg]; simp
theorem nok_ex {l : List Int} (h : nok l = true) : ∃ n, l = dg n ∧ (dg n).length ≤ 100 := by
  obtain ⟨h1, h2⟩ := nok_iff.1 h
  exact ⟨nv l, h1, h1 ▸ h2⟩
theorem dg_len {n j : Nat} : (dg n).length ≤ j ↔ n < 10000 ^ j := by
  induction j generalizing n with
  | zero => simp only [Nat.le_zero_eq, List.length_eq_zero_iff, dg_nil]; omega
  | succ j ih =>
    rcases Nat.eq_zero_or_pos n with h | h
    · subst h; rw [dg_zero]; simp; exact Nat.pow_pos (by omega)
    · rw [dg_pos h, List.length_cons, Nat.succ_le_succ_iff, ih, Nat.div_lt_iff_lt_mul (by omega), Nat.pow_succ]
theorem dg_len_mono {m n : Nat} (h : m ≤ n) : (dg m).length ≤ (dg n).length := by
  have := (dg_len (n := n) (j := (dg n).length)).1 (Nat.le_refl _)
  exact dg_len.2 (by omega)

theorem dg_len64 {n : Nat} (hn : n ≤ 9223372036854775807) : (dg n).length ≤ 5 := by
  rw [dg_len]; omega

/-! ### Reading along -/
/-- From place i on it is the digits of m. -/
theorem dg_step {a : List Int} {i m : Nat} (h : a.drop i = dg m) : a.drop (i + 1) = dg (m / 10000) := by
  rcases Nat.eq_zero_or_pos m with h0 | h0
  · subst h0
    rw [show (0 : Nat) / 10000 = 0 from rfl, dg_zero]
    rw [dg_zero] at h
    rw [List.drop_eq_nil_iff] at h ⊢
    omega
  · rw [dg_pos h0] at h
    rw [← List.tail_drop, h]; rfl
theorem dg_lt {a : List Int} {i m : Nat} (h : a.drop i = dg m) : i < a.length ↔ 0 < m := by
  rcases Nat.eq_zero_or_pos m with h0 | h0
  · subst h0
    rw [dg_zero, List.drop_eq_nil_iff] at h
    omega
  · have : a.drop i ≠ [] := by rw [h]; intro e; rw [dg_nil] at e; omega
    rw [ne_eq, List.drop_eq_nil_iff] at this
    omega
theorem dg_rd {a : List Int} {i m : Nat} (h : a.drop i = dg m) : rd a (i : Int) = ((m % 10000 : Nat) : Int) := by
  rcases Nat.eq_zero_or_pos m with h0 | h0
  · have := dg_lt h
    subst h0
    have : a.length ≤ i := by omega
    rw [rd_cast]; simp [this]
  · have hl := (dg_lt h).2 h0
    rw [drop_rd a i hl, dg_pos h0] at h
    injection h
/-- A limb, 0 behind the end. -/
def lm (a : List Int) (i : Int) : Int := if i < (a.length : Int) then rd a i else 0
theorem dg_lm {a : List Int} {i m : Nat} (h : a.drop i = dg m) : lm a (i : Int) = ((m % 10000 : Nat) : Int) := by
  unfold lm
  split
  · exact dg_rd h
  · have := dg_lt h
    have : m = 0 := by omega
    subst this; rfl

/-! ### Carrying, sums, the least power of 2 -/
theorem tmod4 (n : Nat) : Int.tmod (n : Int) 10000 = ((n % 10000 : Nat) : Int) := by rw [Int.tmod_eq_emod_of_nonneg (by omega)]; omega
theorem tdiv4 (n : Nat) : Int.tdiv (n : Int) 10000 = ((n / 10000 : Nat) : Int) := by rw [Int.tdiv_eq_ediv_of_nonneg (by omega)]; omega
/-- Sums of limbs carried over. -/
def crr : List Int → Nat → List Int
  | [], c => dg c
  | x :: l, c => (((x.toNat + c) % 10000 : Nat) : Int) :: crr l ((x.toNat + c) / 10000)
theorem crr_ok (l : List Int) (c : Nat) : dok (crr l c) := by
  induction l generalizing c with
  | nil => exact dg_ok c
  | cons x l ih => rw [crr, dok_cons]; exact ⟨by omega, ih _⟩
theorem crr_nv (l : List Int) (c : Nat) : nv (crr l c) = nv l + c := by
  induction l generalizing c with
  | nil => simp [crr, nv, nv_dg]
  | cons x l ih => rw [crr, nv, ih, nv]; omega
/-- The sums of two numbers' limbs, one by one. -/
def sm (m n : Nat) : List Int := if h : m = 0 ∧ n = 0 then [] else ((m % 10000 + n % 10000 : Nat) : Int) :: sm (m / 10000) (n / 10000)
termination_by m + n
decreasing_by omega
theorem sm_zero : sm 0 0 = [] := by rw [sm]; simp
theorem sm_pos {m n : Nat} (h : ¬ (m = 0 ∧ n = 0)) : sm m n = ((m % 10000 + n % 10000 : Nat) : Int) :: sm (m / 10000) (n / 10000) := by
  rw [sm, dif_neg h]
theorem sm_nv (d : Nat) : ∀ m n : Nat, m + n ≤ d → nv (sm m n) = m + n := by
  induction d with
  | zero => intro m n h; obtain rfl : m = 0 := by omega
            obtain rfl : n = 0 := by omega
            simp [sm_zero, nv]
  | succ d ih =>
    intro m n h
    by_cases e : m = 0 ∧ n = 0
    · obtain ⟨rfl, rfl⟩ := e; simp [sm_zero, nv]
    · rw [sm_pos e, nv, ih _ _ (by omega)]; omega
theorem sm_mem (d : Nat) : ∀ m n : Nat, m + n ≤ d → ∀ x ∈ sm m n, 0 ≤ x ∧ x ≤ 19998 := by
  induction d with
  | zero => intro m n h; obtain rfl : m = 0 := by omega
            obtain rfl : n = 0 := by omega
            simp [sm_zero]
  | succ d ih =>
    intro m n h
    by_cases e : m = 0 ∧ n = 0
    · obtain ⟨rfl, rfl⟩ := e; simp [sm_zero]
    · rw [sm_pos e]
      intro x hx
      rcases List.mem_cons.1 hx with hx | hx
      · subst hx; omega
      · exact ih _ _ (by omega) x hx
theorem sm_len (d : Nat) : ∀ m n : Nat, m + n ≤ d → (sm m n).length = max (dg m).length (dg n).length := by
  induction d with
  | zero => intro m n h; obtain rfl : m = 0 := by omega
            obtain rfl : n = 0 := by omega
            simp [sm_zero, dg_zero]
  | succ d ih =>
    intro m n h
    by_cases e : m = 0 ∧ n = 0
    · obtain ⟨rfl, rfl⟩ := e; simp [sm_zero, dg_zero]
    · rw [sm_pos e, List.length_cons, ih _ _ (by omega)]
      rcases Nat.eq_zero_or_pos m with hm | hm <;> rcases Nat.eq_zero_or_pos n with hn | hn
      · omega
      · subst hm; rw [dg_pos hn]; simp [dg_zero]
      · subst hn; rw [dg_pos hm]; simp [dg_zero]
      · rw [dg_pos hn, dg_pos hm]; simp only [List.length_cons]; omega
/-- The least k with n at most 2 to the k. -/
def bl (n : Nat) : Nat := if h : n ≤ 1 then 0 else bl ((n + 1) / 2) + 1
termination_by n
decreasing_by omega
theorem bl_le (k : Nat) : ∀ n : Nat, bl n ≤ k ↔ n ≤ 2 ^ k := by
  induction k with
  | zero =>
    intro n; rw [bl]
    by_cases h : n ≤ 1
    · simp [h]
    · simp [h]
  | succ k ih =>
    intro n; rw [bl]
    by_cases h : n ≤ 1
    · have := Nat.pow_pos (n := k + 1) (show 0 < 2 by omega)
      simp [h]; omega
    · rw [dif_neg h, Nat.succ_le_succ_iff, ih, Nat.pow_succ]; omega
theorem pow_big : (10000 : Nat) ^ 100 ≤ 2 ^ 1330 := by decide +kernel
theorem pow_room : (2 : Nat) ^ 1000 < 10000 ^ 100 := by decide +kernel
theorem pow_room2 : (2 : Nat) ^ 1331 < 10000 ^ 101 := by decide +kernel

/-! ### What the four answers are -/
def addR (a b : List Int) : List Int × Bool := if nok a = true ∧ nok b = true ∧ (dg (nv a + nv b)).length ≤ 100 then (dg (nv a + nv b), true) else ([], false)
theorem addR_dg {m n : Nat} (h1 : nok (dg m) = true) (h2 : nok (dg n) = true) : addR (dg m) (dg n) = if (dg (m + n)).length ≤ 100 then (dg (m + n), true) else ([], false) := by
  simp only [addR, h1, h2, true_and, nv_dg]
theorem add_len {m n : Nat} (h1 : (dg m).length ≤ 100) (h2 : (dg n).length ≤ 100) : (dg (m + n)).length ≤ 101 := by
  rw [dg_len] at h1 h2 ⊢
  rw [Nat.pow_succ]; omega

/-! ### Taking away -/
/-- The digits of m less n less e, noughts at the end left. -/
def sb (m n e : Nat) : List Int := if h : m = 0 then [] else (((m % 10000 + 10000 - n % 10000 - e) % 10000 : Nat) : Int) :: sb (m / 10000) (n / 10000) (if m % 10000 < n % 10000 + e then 1 else 0)
termination_by m
decreasing_by omega
theorem sb_zero (n e : Nat) : sb 0 n e = [] := by rw [sb]; simp
theorem sb_pos {m : Nat} (n e : Nat) (h : 0 < m) : sb m n e = (((m % 10000 + 10000 - n % 10000 - e) % 10000 : Nat) : Int) :: sb (m / 10000) (n / 10000) (if m % 10000 < n % 10000 + e then 1 else 0) := by
  rw [sb, dif_neg (by omega)]
theorem sb_ok (m : Nat) : ∀ n e : Nat, dok (sb m n e) := by
  induction m using Nat.strongRecOn with
  | ind m ih =>
    intro n e
    rcases Nat.eq_zero_or_pos m with h | h
    · subst h; rw [sb_zero]; exact dok_nil
    · rw [sb_pos n e h, dok_cons]; exact ⟨by omega, ih _ (by omega) _ _⟩
theorem sb_nv' (m : Nat) : ∀ n e : Nat, e ≤ 1 → n + e ≤ m → nv (sb m n e) + n + e = m := by
  induction m using Nat.strongRecOn with
  | ind m ih =>
    intro n e he hle
    rcases Nat.eq_zero_or_pos m with h | h
    · subst h; rw [sb_zero, nv]; omega
    · rw [sb_pos n e h, nv]
      by_cases c : m % 10000 < n % 10000 + e
      · rw [if_pos c]
        have := ih (m / 10000) (by omega) (n / 10000) 1 (by omega) (by omega)
        omega
      · rw [if_neg c]
        have := ih (m / 10000) (by omega) (n / 10000) 0 (by omega) (by omega)
        omega
theorem sb_nv (m n e : Nat) (h : e ≤ 1 ∧ n + e ≤ m) : nv (sb m n e) = m - n - e := by
  have := sb_nv' m n e (by omega) (by omega)
  omega
def subR (a b : List Int) : List Int × Bool := if nok a = true ∧ nok b = true ∧ nv b ≤ nv a then (dg (nv a - nv b), true) else ([], false)
theorem subR_dg {m n : Nat} (h1 : nok (dg m) = true) (h2 : nok (dg n) = true) : subR (dg m) (dg n) = if n ≤ m then (dg (m - n), true) else ([], false) := by
  simp only [subR, h1, h2, true_and, nv_dg]

/-! ### Times -/
theorem nv_set (l : List Int) : ∀ (j : Nat) (v : Int), j < l.length → nv (l.set j v) + (rd l (j : Int)).toNat * 10000 ^ j = nv l + v.toNat * 10000 ^ j := by
  induction l with
  | nil => intro j v h; simp at h
  | cons x l ih =>
    intro j v h
    cases j with
    | zero => simp [nv, rd]; omega
    | succ j =>
      have e : rd (x :: l) ((j + 1 : Nat) : Int) = rd l (j : Int) := by simp [rd]
      have h' := ih j v (by simpa using h)
      rw [e, List.set_cons_succ, nv, nv, Nat.pow_succ, ← Nat.mul_assoc, ← Nat.mul_assoc]
      omega
theorem nv_zeros (n : Nat) : nv (List.replicate n (0 : Int)) = 0 := by
  induction n with
  | zero => rfl
  | succ n ih => rw [List.replicate_succ, nv, ih]; rfl
theorem dg_up (n j : Nat) : n / 10000 ^ j = n / 10000 ^ (j + 1) * 10000 + n / 10000 ^ j % 10000 := by
  rw [Nat.pow_succ, ← Nat.div_div_eq_div_mul]; omega
theorem rd_set (l : List Int) (i j : Nat) (v : Int) : rd (l.set i v) (j : Int) = if i = j ∧ i < l.length then v else rd l (j : Int) := by
  rw [rd_cast, rd_cast, List.getD_eq_getElem?_getD, List.getD_eq_getElem?_getD, List.getElem?_set]
  by_cases h : i = j
  · subst h
    by_cases g : i < l.length
    · rw [if_pos rfl, if_pos g, if_pos ⟨rfl, g⟩]; rfl
    · rw [if_pos rfl, if_neg g, if_neg (fun h => g h.2), List.getElem?_eq_none (by omega)]
  · rw [if_neg h, if_neg (fun e => h e.1)]
theorem mul_small {x y : Nat} (hx : x < 10000) (hy : y < 10000) : x * y ≤ 99980001 := by
  have := Nat.mul_le_mul (show x ≤ 9999 by omega) (show y ≤ 9999 by omega)
  omega
theorem row_add {x q y P A B : Nat} (h : A = B + x * y * P) : A + x * (q * (P * 10000)) = B + x * ((q * 10000 + y) * P) := by
  subst h
  simp only [Nat.mul_add, Nat.add_mul, Nat.mul_assoc, Nat.mul_comm, Nat.mul_left_comm, Nat.add_assoc, Nat.add_comm, Nat.add_left_comm]
theorem row_next {x q n P A B T : Nat} (h : A = B + x * (n * P)) (k : B + (q * 10000 + x) * P * n = T) : A + q * (P * 10000) * n = T := by
  subst h; subst k
  simp only [Nat.mul_add, Nat.add_mul, Nat.mul_assoc, Nat.mul_comm, Nat.mul_left_comm, Nat.add_assoc, Nat.add_comm, Nat.add_left_comm]
theorem carry_add {x q y P A B o s1 s2 c : Nat} (h : A + o * P = B + s1 * P) (hs : s1 + 10000 * s2 = o + x * y + c) : A + (s2 + x * q) * (P * 10000) = B + (c + x * (q * 10000 + y)) * P := by
  have h2 : (s1 + 10000 * s2) * P = (o + x * y + c) * P := by rw [hs]
  simp only [Nat.mul_add, Nat.add_mul, Nat.mul_assoc, Nat.mul_comm, Nat.mul_left_comm, Nat.add_assoc, Nat.add_comm, Nat.add_left_comm] at h2 h ⊢
  omega
def mulR (a b : List Int) : List Int × Bool := if nok a = true ∧ nok b = true ∧ (dg (nv a * nv b)).length ≤ 100 then (dg (nv a * nv b), true) else ([], false)
theorem mulR_dg {m n : Nat} (h1 : nok (dg m) = true) (h2 : nok (dg n) = true) : mulR (dg m) (dg n) = if (dg (m * n)).length ≤ 100 then (dg (m * n), true) else ([], false) := by
  simp only [mulR, h1, h2, true_and, nv_dg]
theorem mul_len {m n : Nat} (h1 : (dg m).length ≤ 100) (h2 : (dg n).length ≤ 100) : (dg (m * n)).length ≤ 200 := by
  rw [dg_len] at h1 h2 ⊢
  rw [show (200 : Nat) = 100 + 100 from rfl, Nat.pow_add]
  rcases Nat.eq_zero_or_pos m with h | h
  · subst h; simp only [Nat.zero_mul]; exact Nat.mul_pos (Nat.pow_pos (by omega)) (Nat.pow_pos (by omega))
  · exact Nat.lt_of_lt_of_le (Nat.mul_lt_mul_of_pos_left h2 h) (Nat.mul_le_mul_right _ (Nat.le_of_lt h1))

theorem tr_len (l : List Int) : (tr l).length ≤ l.length := by
  induction l with
  | nil => simp [tr]
  | cons x l ih =>
    rw [tr]
    split
    · split <;> simp
    · simpa using ih
end Go.Proofs.YtlaliacfonfflaaDoor.Bs
