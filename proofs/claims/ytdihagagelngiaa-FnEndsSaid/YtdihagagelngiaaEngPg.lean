/- Programs and what makes them right, in plain Lean. No program in sight. -/
import Derived.Test.YtdihagagelngiaaEngPk
namespace Go.Eng.C
open Go Go.RowKit
set_option linter.unusedVariables false
set_option linter.unusedSimpArgs false
structure Inp where
  max : Int
  bud : Int
structure St where
  op : Int
  n : Int
  pl : List Tm
  ex : List Tm
structure Pr where
  w : Int
  lows : List Inp
  secs : List Inp
  temps : Int
  arrs : List Int
  body : List St
def sizeW (w : Int) : Int := 2 ^ w.toNat
def bitsN (n : Nat) : Int := if h : n = 0 then 0 else 1 + bitsN (n / 2)
termination_by n
decreasing_by omega
def insN (p : Pr) : Int := ((p.lows.length + p.secs.length : Nat) : Int)
def varsN (p : Pr) : Int := insN p + p.temps
def inOk (w : Int) (low : Bool) (x : Inp) : Prop := 0 ≤ x.max ∧ x.max ≤ sizeW w - 1 ∧ 0 ≤ x.bud ∧ x.bud ≤ 99 ∧ (low = true → x.bud = 0)
def sumBits : List Inp → Int
  | [] => 0
  | x :: l => bitsN x.max.toNat + sumBits l
def roomOk (p : Pr) : Prop := 0 ≤ p.temps ∧ p.temps ≤ 6 ∧ p.arrs.length ≤ 2 ∧ p.body.length ≤ 40 ∧ ∀ n ∈ p.arrs, 1 ≤ n ∧ n ≤ 6
/-- An expression names what there is. -/
def nameOk (p : Pr) (t : Tm) : Prop := (t.op = 0 → t.n < sizeW p.w) ∧ (t.op = 1 → t.n < varsN p) ∧ (t.op = 2 → t.n < (p.arrs.length : Int))
def reckOk (p : Pr) (e : List Tm) : Prop := expOk e = true ∧ ∀ t ∈ e, nameOk p t
def mayOk (p : Pr) (e : List Tm) : Prop := e.length ≤ 40 ∧ reckOk p e ∧ ∀ t ∈ e, t.op ≠ 17
/-- How large all is at most. -/
structure PB (p : Pr) : Prop where
  l : p.lows.length ≤ 1048576
  s : p.secs.length ≤ 1048576
  a : p.arrs.length ≤ 1048576
  b : p.body.length ≤ 1048576
  e : ∀ s ∈ p.body, s.pl.length ≤ 1048576 ∧ s.ex.length ≤ 1048576
def inputsOk (p : Pr) : Prop := p.lows.length ≤ 3 ∧ p.secs.length ≤ 3 ∧ (∀ x ∈ p.lows, inOk p.w true x) ∧ (∀ x ∈ p.secs, inOk p.w false x) ∧ sumBits p.lows + sumBits p.secs ≤ 10
def stOk (p : Pr) (s : St) : Prop :=
  (s.op = 0 ∧ s.pl.length = 0 ∧ mayOk p s.ex ∧ insN p ≤ s.n ∧ s.n ≤ varsN p - 1) ∨
  (s.op = 1 ∧ mayOk p s.pl ∧ mayOk p s.ex ∧ 0 ≤ s.n ∧ s.n ≤ (p.arrs.length : Int) - 1) ∨
  ((s.op = 2 ∨ s.op = 6) ∧ s.pl.length = 0 ∧ mayOk p s.ex ∧ s.n = 0) ∨
  (s.op = 5 ∧ s.pl.length = 0 ∧ s.ex.length = 0 ∧ 0 ≤ s.n ∧ s.n ≤ 4) ∨
  ((s.op = 7 ∨ s.op = 9) ∧ s.pl.length = 0 ∧ s.ex.length = 0 ∧ 0 ≤ s.n ∧ s.n ≤ 9) ∨
  ((s.op = 3 ∨ s.op = 4 ∨ s.op = 8) ∧ s.pl.length = 0 ∧ s.ex.length = 0 ∧ s.n = 0)
theorem hgt_nil (h : Int) : hgt [] h = some h := rfl
theorem expOk_pos {e : List Tm} (h : expOk e = true) : 0 < e.length := by
  cases e with
  | nil => simp [expOk, hgt] at h
  | cons => simp
theorem mayOk_pos {p : Pr} {e : List Tm} (h : mayOk p e) : 0 < e.length := expOk_pos h.2.1.1
theorem stOk0 {p : Pr} {s : St} (h : s.op = 0) : stOk p s ↔ s.pl.length = 0 ∧ mayOk p s.ex ∧ insN p ≤ s.n ∧ s.n ≤ varsN p - 1 := by simp [stOk, h]
theorem stOk1 {p : Pr} {s : St} (h : s.op = 1) : stOk p s ↔ mayOk p s.pl ∧ mayOk p s.ex ∧ 0 ≤ s.n ∧ s.n ≤ (p.arrs.length : Int) - 1 := by simp [stOk, h]
theorem stOk26 {p : Pr} {s : St} (h : s.op = 2 ∨ s.op = 6) : stOk p s ↔ s.pl.length = 0 ∧ mayOk p s.ex ∧ s.n = 0 := by rcases h with h | h <;> simp [stOk, h]
theorem stOk5 {p : Pr} {s : St} (h : s.op = 5) : stOk p s ↔ s.pl.length = 0 ∧ s.ex.length = 0 ∧ 0 ≤ s.n ∧ s.n ≤ 4 := by simp [stOk, h]
theorem stOk79 {p : Pr} {s : St} (h : s.op = 7 ∨ s.op = 9) : stOk p s ↔ s.pl.length = 0 ∧ s.ex.length = 0 ∧ 0 ≤ s.n ∧ s.n ≤ 9 := by rcases h with h | h <;> simp [stOk, h]
theorem stOk348 {p : Pr} {s : St} (h : s.op = 3 ∨ s.op = 4 ∨ s.op = 8) : stOk p s ↔ s.pl.length = 0 ∧ s.ex.length = 0 ∧ s.n = 0 := by rcases h with h | h | h <;> simp [stOk, h]
theorem stOkN {p : Pr} {s : St} (h : ¬ (0 ≤ s.op ∧ s.op ≤ 9)) : ¬ stOk p s := by unfold stOk; omega
theorem bitsN_le (n : Nat) : 0 ≤ bitsN n ∧ bitsN n ≤ n := by
  induction n using Nat.strongRecOn with
  | ind n ih =>
    rw [bitsN]
    split
    · omega
    · have := ih (n / 2) (by omega)
      omega
theorem sumBits_take (l : List Inp) (i : Nat) (h : i < l.length) (z : Inp) : sumBits (l.take (i + 1)) = sumBits (l.take i) + bitsN (l.getD i z).max.toNat := by
  induction l generalizing i with
  | nil => simp at h
  | cons x l ih =>
    cases i with
    | zero => simp [sumBits]
    | succ i =>
      have := ih i (by simpa using h)
      simp only [List.take_succ_cons, sumBits, List.getD_cons_succ, this]; omega
theorem sumBits_le (l : List Inp) (h : ∀ x ∈ l, 0 ≤ x.max ∧ x.max ≤ 255) : 0 ≤ sumBits l ∧ sumBits l ≤ 255 * l.length := by
  induction l with
  | nil => simp [sumBits]
  | cons x l ih =>
    have h1 := ih fun y hy => h y (List.mem_cons_of_mem _ hy)
    have h2 := h x (by simp)
    have h3 := bitsN_le x.max.toNat
    simp only [sumBits, List.length_cons]; omega
end Go.Eng.C
