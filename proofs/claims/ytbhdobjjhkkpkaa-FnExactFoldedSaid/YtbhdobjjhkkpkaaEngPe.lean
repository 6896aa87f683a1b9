/- Inputs in plain Lean: how many there are, the input of a number, the number of an input, its bits. No program in sight. -/
import Derived.Test.YtbhdobjjhkkpkaaEngPa
namespace Go.Eng.C
open Go Go.RowKit
set_option linter.unusedVariables false
set_option linter.unusedSimpArgs false
/-- How many inputs there are, as far as these reach. -/
def cntL : List Inp → Int
  | [] => 1
  | x :: l => (x.max + 1) * cntL l
theorem cntL_snoc (l : List Inp) (x : Inp) : cntL (l ++ [x]) = cntL l * (x.max + 1) := by
  induction l with
  | nil => simp [cntL]
  | cons y l ih => simp only [List.cons_append, cntL, ih, Int.mul_assoc]
theorem take_snoc {l : List Inp} {i : Nat} (h : i < l.length) (z : Inp) : l.take (i + 1) = l.take i ++ [l.getD i z] := by
  rw [List.take_add_one, List.getD_eq_getElem?_getD, List.getElem?_eq_getElem h]; rfl
theorem bitsN_pow (n : Nat) : n + 1 ≤ 2 ^ (bitsN n).toNat := by
  induction n using Nat.strongRecOn with
  | ind n ih =>
    rw [bitsN]
    split
    · rename_i h; subst h; simp
    · rename_i h
      have h1 := ih (n / 2) (by omega)
      have h2 := (bitsN_le (n / 2)).1
      have e : (1 + bitsN (n / 2)).toNat = (bitsN (n / 2)).toNat + 1 := by omega
      rw [e, Nat.pow_succ]; omega
theorem sumBits_nn : ∀ (l : List Inp), 0 ≤ sumBits l
  | [] => Int.le_refl 0
  | x :: l => by have := (bitsN_le x.max.toNat).1; have := sumBits_nn l; simp only [sumBits]; omega
theorem sumBits_app : ∀ (a b : List Inp), sumBits (a ++ b) = sumBits a + sumBits b
  | [], b => by simp [sumBits]
  | x :: a, b => by simp only [List.cons_append, sumBits, sumBits_app a b]; omega
theorem cntL_bits {l : List Inp} (h : ∀ x ∈ l, 0 ≤ x.max) : 1 ≤ cntL l ∧ cntL l ≤ ((2 ^ (sumBits l).toNat : Nat) : Int) := by
  induction l with
  | nil => simp [cntL, sumBits]
  | cons x l ih =>
    have a1 := h x (by simp)
    obtain ⟨b1, b2⟩ := ih fun y hy => h y (List.mem_cons_of_mem _ hy)
    have c1 := bitsN_pow x.max.toNat
    have c2 := (bitsN_le x.max.toNat).1
    have c3 := sumBits_nn l
    have e : (sumBits (x :: l)).toNat = (bitsN x.max.toNat).toNat + (sumBits l).toNat := by simp only [sumBits]; omega
    rw [e, Nat.pow_add]
    simp only [cntL]
    constructor
    · have := Int.mul_le_mul (by omega : (1 : Int) ≤ x.max + 1) b1 (by decide) (by omega)
      omega
    · rw [Int.natCast_mul]
      exact Int.mul_le_mul (by omega) b2 (by omega) (by omega)
/-- Inputs that can be counted. -/
structure CB (q : List Inp) : Prop where
  n : q.length ≤ 6
  m : ∀ x ∈ q, 0 ≤ x.max ∧ x.max ≤ 255
  b : sumBits q ≤ 10
theorem sumBits_tk : ∀ (q : List Inp) (i : Nat), sumBits (q.take i) ≤ sumBits q
  | [], i => by simp
  | x :: q, 0 => by simp only [List.take_zero]; exact sumBits_nn _
  | x :: q, i + 1 => by simp only [List.take_succ_cons, sumBits]; have := sumBits_tk q i; omega
theorem CB.c {q : List Inp} (h : CB q) (i : Nat) : 1 ≤ cntL (q.take i) ∧ cntL (q.take i) ≤ 1024 := by
  obtain ⟨h1, h2⟩ := cntL_bits (l := q.take i) (fun x hx => (h.m x (List.mem_of_mem_take hx)).1)
  have h3 := sumBits_tk q i
  have h4 := h.b
  have : 2 ^ (sumBits (q.take i)).toNat ≤ 2 ^ 10 := Nat.pow_le_pow_right (by omega) (by omega)
  omega
theorem CB.all {q : List Inp} (h : CB q) : 1 ≤ cntL q ∧ cntL q ≤ 1024 := by
  have := h.c q.length
  rwa [List.take_length] at this
theorem sizeW_256 {w : Int} (h8 : w ≤ 8) : sizeW w ≤ 256 := (sizeW_bd h8).2
theorem CB.of {p : Pr} (h : inputsOk p) (h8 : p.w ≤ 8) : CB (p.lows ++ p.secs) := by
  obtain ⟨h1, h2, h3, h4, h5⟩ := h
  have hs := sizeW_256 h8
  refine ⟨by simp; omega, fun x hx => ?_, by rw [sumBits_app]; exact h5⟩
  rcases List.mem_append.1 hx with h | h
  · have := h3 x h; unfold inOk at this; omega
  · have := h4 x h; unfold inOk at this; omega
/-- The input of a number. -/
def atL : List Inp → Int → List Int
  | [], _ => []
  | x :: l, n => n % (x.max + 1) :: atL l (n / (x.max + 1))
theorem atL_len : ∀ (l : List Inp) (n : Int), (atL l n).length = l.length
  | [], _ => rfl
  | x :: l, n => by simp [atL, atL_len l]
/-- The number of an input. -/
def numL : List Inp → List Int → Int
  | x :: l, a :: s => numL l s * (x.max + 1) + a
  | _, _ => 0
/-- An input that there is. -/
def InL : List Inp → List Int → Prop
  | [], [] => True
  | x :: l, a :: s => (0 ≤ a ∧ a ≤ x.max) ∧ InL l s
  | _, _ => False
theorem InL.len : ∀ {l : List Inp} {s : List Int}, InL l s → s.length = l.length
  | [], [], _ => rfl
  | x :: l, a :: s, h => by simp [InL.len h.2]
  | [], a :: s, h => h.elim
  | x :: l, [], h => h.elim
theorem InL.iff : ∀ {l : List Inp} {s : List Int}, InL l s ↔ s.length = l.length ∧ ∀ i < s.length, 0 ≤ s.getD i 0 ∧ s.getD i 0 ≤ (l.getD i ⟨0, 0⟩).max
  | [], [] => by simp [InL]
  | x :: l, a :: s => by
    simp only [InL, InL.iff (l := l) (s := s), List.length_cons]
    constructor
    · rintro ⟨h, h1, h2⟩
      refine ⟨by omega, fun i hi => ?_⟩
      cases i with
      | zero => simpa using h
      | succ i => simpa using h2 i (by omega)
    · rintro ⟨h1, h2⟩
      refine ⟨by simpa using h2 0 (by omega), by omega, fun i hi => ?_⟩
      simpa using h2 (i + 1) (by omega)
  | [], a :: s => by simp [InL]
  | x :: l, [] => by simp [InL]
theorem InL.app : ∀ {l m : List Inp} {s t : List Int}, InL l s → InL m t → InL (l ++ m) (s ++ t)
  | [], m, [], t, _, h => h
  | x :: l, m, a :: s, t, h, k => ⟨h.1, InL.app h.2 k⟩
  | [], m, a :: s, t, h, _ => h.elim
  | x :: l, m, [], t, h, _ => h.elim
theorem atL_in : ∀ {l : List Inp} (n : Int), (∀ x ∈ l, 0 ≤ x.max) → InL l (atL l n)
  | [], n, _ => trivial
  | x :: l, n, h => by
    have h0 := h x (by simp)
    have h1 := Int.emod_nonneg n (show x.max + 1 ≠ 0 by omega)
    have h2 := Int.emod_lt_of_pos n (show 0 < x.max + 1 by omega)
    exact ⟨⟨h1, by omega⟩, atL_in _ (fun y hy => h y (List.mem_cons_of_mem _ hy))⟩
theorem numL_at : ∀ {l : List Inp} {n : Int}, (∀ x ∈ l, 0 ≤ x.max) → 0 ≤ n → n < cntL l → numL l (atL l n) = n
  | [], n, _, h0, h1 => by simp only [cntL] at h1; simp only [atL, numL]; omega
  | x :: l, n, h, h0, h1 => by
    have hx := h x (by simp)
    simp only [cntL] at h1
    have h2 : n / (x.max + 1) < cntL l := Int.ediv_lt_of_lt_mul (by omega) (by rw [Int.mul_comm]; exact h1)
    have h3 := numL_at (l := l) (n := n / (x.max + 1)) (fun y hy => h y (List.mem_cons_of_mem _ hy)) (Int.ediv_nonneg h0 (by omega)) h2
    simp only [atL, numL, h3]
    exact Int.ediv_mul_add_emod n (x.max + 1)
theorem atL_num : ∀ {l : List Inp} {s : List Int}, InL l s → atL l (numL l s) = s
  | [], [], _ => rfl
  | x :: l, a :: s, h => by
    have h0 := h.1
    simp only [numL, atL]
    rw [Int.add_comm, Int.add_mul_emod_self_right, Int.emod_eq_of_lt h0.1 (by omega), Int.add_mul_ediv_right _ _ (by omega), Int.ediv_eq_zero_of_lt h0.1 (by omega), Int.zero_add, atL_num h.2]
  | [], a :: s, h => h.elim
  | x :: l, [], h => h.elim
theorem numL_bd : ∀ {l : List Inp} {s : List Int}, InL l s → 0 ≤ numL l s ∧ numL l s < cntL l
  | [], [], _ => by simp [numL, cntL]
  | x :: l, a :: s, h => by
    obtain ⟨h1, h2⟩ := numL_bd h.2
    have h0 := h.1
    simp only [numL, cntL]
    have h3 : 0 ≤ numL l s * (x.max + 1) := Int.mul_nonneg h1 (by omega)
    have h4 : numL l s * (x.max + 1) + (x.max + 1) ≤ (x.max + 1) * cntL l := by
      have := Int.mul_le_mul_of_nonneg_right (show numL l s + 1 ≤ cntL l by omega) (show 0 ≤ x.max + 1 by omega)
      rw [Int.add_mul, Int.one_mul, Int.mul_comm (cntL l)] at this
      exact this
    omega
  | [], a :: s, h => h.elim
  | x :: l, [], h => h.elim
/-- The bits of a number, the greatest first. -/
def bitsOf (a : Int) : Nat → List Bool
  | 0 => []
  | k + 1 => decide (a / 2 ^ k % 2 = 1) :: bitsOf a k
theorem bitsOf_len (a : Int) : ∀ k, (bitsOf a k).length = k
  | 0 => rfl
  | k + 1 => by simp [bitsOf, bitsOf_len a k]
theorem bitsOf_inj {a b : Int} : ∀ {k : Nat}, bitsOf a k = bitsOf b k → a % 2 ^ k = b % 2 ^ k
  | 0, _ => by simp [Int.emod_one]
  | k + 1, h => by
    simp only [bitsOf, List.cons.injEq] at h
    have h1 := bitsOf_inj h.2
    have e : ∀ x : Int, x % 2 ^ (k + 1) = x % 2 ^ k + 2 ^ k * (x / 2 ^ k % 2) := fun x => by
      have hp : (0 : Int) < 2 ^ k := Int.pow_pos (by decide)
      rw [Int.pow_succ]
      generalize (2 : Int) ^ k = D at hp ⊢
      have h1 := Int.mul_ediv_add_emod x D
      have h2 := Int.mul_ediv_add_emod (x / D) 2
      have h3 := Int.emod_nonneg x (show D ≠ 0 by omega)
      have h4 := Int.emod_lt_of_pos x hp
      have h5 : 0 ≤ x / D % 2 ∧ x / D % 2 < 2 := ⟨Int.emod_nonneg _ (by decide), Int.emod_lt_of_pos _ (by decide)⟩
      have h6 : x = (x % D + D * (x / D % 2)) + D * 2 * (x / D / 2) := by
        rw [Int.mul_assoc, Int.add_assoc, ← Int.mul_add, Int.add_comm (x / D % 2), h2, Int.add_comm, h1]
      have h7 : 0 ≤ x % D + D * (x / D % 2) ∧ x % D + D * (x / D % 2) < D * 2 := by
        have : x / D % 2 = 0 ∨ x / D % 2 = 1 := by omega
        rcases this with h | h <;> rw [h] <;> omega
      calc x % (D * 2) = ((x % D + D * (x / D % 2)) + D * 2 * (x / D / 2)) % (D * 2) := by rw [← h6]
        _ = x % D + D * (x / D % 2) := by rw [Int.add_mul_emod_self_left, Int.emod_eq_of_lt h7.1 h7.2]
    have h2 : a / 2 ^ k % 2 = b / 2 ^ k % 2 := by
      have := h.1
      have h3 : 0 ≤ a / 2 ^ k % 2 ∧ a / 2 ^ k % 2 < 2 := ⟨Int.emod_nonneg _ (by decide), Int.emod_lt_of_pos _ (by decide)⟩
      have h4 : 0 ≤ b / 2 ^ k % 2 ∧ b / 2 ^ k % 2 < 2 := ⟨Int.emod_nonneg _ (by decide), Int.emod_lt_of_pos _ (by decide)⟩
      rw [decide_eq_decide] at this
      omega
    rw [e a, e b, h1, h2]
/-- The bits of an input. -/
def bitsL : List Inp → List Int → List Bool
  | x :: l, a :: s => bitsOf a (bitsN x.max.toNat).toNat ++ bitsL l s
  | _, _ => []
theorem bitsL_len : ∀ {l : List Inp} {s : List Int}, InL l s → ((bitsL l s).length : Int) = sumBits l
  | [], [], _ => rfl
  | x :: l, a :: s, h => by
    have := bitsL_len h.2
    have h0 := (bitsN_le x.max.toNat).1
    simp only [bitsL, List.length_append, bitsOf_len, sumBits]; omega
  | [], a :: s, h => h.elim
  | x :: l, [], h => h.elim
theorem bitsL_inj : ∀ {l : List Inp} {s t : List Int}, InL l s → InL l t → bitsL l s = bitsL l t → s = t
  | [], [], [], _, _, _ => rfl
  | x :: l, a :: s, b :: t, h, k, e => by
    simp only [bitsL] at e
    obtain ⟨e1, e2⟩ := List.append_inj e (by rw [bitsOf_len, bitsOf_len])
    have h1 := bitsOf_inj e1
    have hp := bitsN_pow x.max.toNat
    have hpi : x.max + 1 ≤ (2 : Int) ^ (bitsN x.max.toNat).toNat := by
      have : (2 : Int) ^ (bitsN x.max.toNat).toNat = ((2 ^ (bitsN x.max.toNat).toNat : Nat) : Int) := by simp
      have h0 := h.1
      omega
    rw [Int.emod_eq_of_lt h.1.1 (by have := h.1; omega), Int.emod_eq_of_lt k.1.1 (by have := k.1; omega)] at h1
    rw [h1, bitsL_inj h.2 k.2 e2]
  | [], a :: s, _, h, _, _ => h.elim
  | [], [], b :: t, _, k, _ => k.elim
  | x :: l, [], _, h, _, _ => h.elim
  | x :: l, a :: s, [], _, k, _ => k.elim
end Go.Eng.C
