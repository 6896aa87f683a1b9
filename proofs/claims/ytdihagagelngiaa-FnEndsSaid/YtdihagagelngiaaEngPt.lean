/- Terms, expressions and their trees, in plain Lean: what ExpOk asks, what an expression is made of, where its parts begin. No program in sight. -/
import Derived.Test.YtdihagagelngiaaEngPb
namespace Go.Eng.C
open Go Go.RowKit
set_option linter.unusedVariables false
set_option linter.unusedSimpArgs false

structure Tm where
  op : Int
  n : Int
theorem Tm.ext' {a b : Tm} (h : a.op = b.op) (k : a.n = b.n) : a = b := by
  cases a; cases b; simp at h k; subst h; subst k; rfl
def tmOk (t : Tm) : Prop := 0 ≤ tks t.op ∧ 0 ≤ t.n ∧ t.n ≤ 255 ∧ (t.op > 2 → t.n = 0)
instance (t : Tm) : Decidable (tmOk t) := by unfold tmOk; infer_instance
theorem tks_range (a : Int) : -1 ≤ tks a ∧ tks a ≤ 3 := by
  unfold tks
  split
  · omega
  split
  · omega
  split
  · omega
  split <;> omega
/-- How many stand there behind these, if each finds what it takes. -/
def hgt : List Tm → Int → Option Int
  | [], h => some h
  | t :: l, h => if tmOk t ∧ tks t.op ≤ h then hgt l (h + (1 - tks t.op)) else none
def expOk (e : List Tm) : Bool := decide (e.length ≤ 3000) && decide (hgt e 0 = some 1)

inductive Tr where
  | t0 (t : Tm)
  | t1 (t : Tm) (a : Tr)
  | t2 (t : Tm) (a b : Tr)
  | t3 (t : Tm) (a b c : Tr)
def Tr.flat : Tr → List Tm
  | .t0 t => [t]
  | .t1 t a => a.flat ++ [t]
  | .t2 t a b => a.flat ++ b.flat ++ [t]
  | .t3 t a b c => a.flat ++ b.flat ++ c.flat ++ [t]
def Tr.Ok : Tr → Prop
  | .t0 t => tmOk t ∧ tks t.op = 0
  | .t1 t a => tmOk t ∧ tks t.op = 1 ∧ a.Ok
  | .t2 t a b => tmOk t ∧ tks t.op = 2 ∧ a.Ok ∧ b.Ok
  | .t3 t a b c => tmOk t ∧ tks t.op = 3 ∧ a.Ok ∧ b.Ok ∧ c.Ok
theorem Tr.flat_pos (a : Tr) : 0 < a.flat.length := by cases a <;> simp [Tr.flat] <;> omega
/-- The pile's texts, the lowest first (the top is the list's head). -/
def flats : List Tr → List Tm
  | [] => []
  | a :: r => flats r ++ a.flat
def AllOk : List Tr → Prop
  | [] => True
  | a :: r => a.Ok ∧ AllOk r
/-- One Term on a pile. -/
theorem pile_step {t : Tm} {st : List Tr} (ho : AllOk st) (ht : tmOk t) (hk : tks t.op ≤ (st.length : Int)) :
    ∃ a r, AllOk (a :: r) ∧ flats (a :: r) = flats st ++ [t] ∧ ((r.length + 1 : Nat) : Int) = (st.length : Int) + (1 - tks t.op) := by
  have hr := tks_range t.op
  have h0 := ht.1
  have hc : tks t.op = 0 ∨ tks t.op = 1 ∨ tks t.op = 2 ∨ tks t.op = 3 := by omega
  rcases hc with hc | hc | hc | hc
  · exact ⟨.t0 t, st, ⟨⟨ht, hc⟩, ho⟩, by simp [flats, Tr.flat], by rw [hc]; omega⟩
  · match st, ho, hk with
    | [], _, hk => simp [hc] at hk
    | a :: r, ho, _ => exact ⟨.t1 t a, r, ⟨⟨ht, hc, ho.1⟩, ho.2⟩, by simp [flats, Tr.flat], by simp [hc]⟩
  · match st, ho, hk with
    | [], _, hk => simp [hc] at hk
    | [_], _, hk => simp [hc] at hk
    | b :: a :: r, ho, _ => exact ⟨.t2 t a b, r, ⟨⟨ht, hc, ho.2.1, ho.1⟩, ho.2.2⟩, by simp [flats, Tr.flat], by simp [hc]; omega⟩
  · match st, ho, hk with
    | [], _, hk => simp [hc] at hk
    | [_], _, hk => simp [hc] at hk
    | [_, _], _, hk => simp [hc] at hk
    | c :: b :: a :: r, ho, _ => exact ⟨.t3 t a b c, r, ⟨⟨ht, hc, ho.2.2.1, ho.2.1, ho.1⟩, ho.2.2.2⟩, by simp [flats, Tr.flat], by simp [hc]; omega⟩
theorem pile_run (e : List Tm) : ∀ (st : List Tr) (h : Int), AllOk st → hgt e (st.length : Int) = some h → ∃ st', AllOk st' ∧ flats st' = flats st ++ e ∧ (st'.length : Int) = h := by
  induction e with
  | nil =>
    intro st h ho hh
    simp only [hgt, Option.some.injEq] at hh
    exact ⟨st, ho, by simp, hh⟩
  | cons t e ih =>
    intro st h ho hh
    rw [hgt] at hh
    by_cases c : tmOk t ∧ tks t.op ≤ (st.length : Int)
    · rw [if_pos c] at hh
      obtain ⟨a, r, h1, h2, h3⟩ := pile_step ho c.1 c.2
      rw [← h3] at hh
      obtain ⟨st', k1, k2, k3⟩ := ih (a :: r) h h1 hh
      exact ⟨st', k1, by rw [k2, h2]; simp, k3⟩
    · rw [if_neg c] at hh; cases hh
/-- A right expression is one tree. -/
theorem exp_tree {e : List Tm} (h : expOk e = true) : ∃ a : Tr, a.Ok ∧ a.flat = e ∧ e.length ≤ 3000 := by
  simp only [expOk, Bool.and_eq_true, decide_eq_true_eq] at h
  obtain ⟨st, h1, h2, h3⟩ := pile_run e [] 1 trivial h.2
  match st, h1, h2, h3 with
  | [], _, _, h3 => simp at h3
  | [a], h1, h2, _ => exact ⟨a, h1.1, by simpa [flats] using h2, h.1⟩
  | _ :: _ :: _, _, _, h3 => simp at h3; omega
theorem hgt_append (a b : List Tm) : ∀ h : Int, hgt (a ++ b) h = (hgt a h).bind fun k => hgt b k := by
  induction a with
  | nil => intro h; simp [hgt]
  | cons t a ih =>
    intro h
    simp only [List.cons_append, hgt]
    split
    · exact ih _
    · rfl
theorem tree_hgt (a : Tr) : a.Ok → ∀ h : Int, 0 ≤ h → hgt a.flat h = some (h + 1) := by
  induction a with
  | t0 t =>
    intro ho h hh
    rw [Tr.flat, hgt, if_pos ⟨ho.1, by rw [ho.2]; exact hh⟩, hgt, ho.2]; simp
  | t1 t a iha =>
    intro ho h hh
    rw [Tr.flat, hgt_append, iha ho.2.2 h hh, Option.bind_some, hgt, if_pos ⟨ho.1, by rw [ho.2.1]; omega⟩, hgt, ho.2.1]; simp
  | t2 t a b iha ihb =>
    intro ho h hh
    rw [Tr.flat, hgt_append, hgt_append, iha ho.2.2.1 h hh, Option.bind_some, ihb ho.2.2.2 (h + 1) (by omega), Option.bind_some, hgt, if_pos ⟨ho.1, by rw [ho.2.1]; omega⟩, hgt, ho.2.1]
    congr 1; omega
  | t3 t a b c iha ihb ihc =>
    intro ho h hh
    rw [Tr.flat, hgt_append, hgt_append, hgt_append, iha ho.2.2.1 h hh, Option.bind_some, ihb ho.2.2.2.1 (h + 1) (by omega), Option.bind_some, ihc ho.2.2.2.2 (h + 1 + 1) (by omega), Option.bind_some, hgt, if_pos ⟨ho.1, by rw [ho.2.1]; omega⟩, hgt, ho.2.1]
    congr 1; omega
theorem tree_exp {a : Tr} (h : a.Ok) (hl : a.flat.length ≤ 3000) : expOk a.flat = true := by
  simp only [expOk, Bool.and_eq_true, decide_eq_true_eq]
  exact ⟨hl, tree_hgt a h 0 (by omega)⟩
/-- Up to any place of a right expression: a pile, and the tree that ends there on its top. -/
theorem exp_at {e : List Tm} (h : expOk e = true) {i : Nat} (hi : i < e.length) : ∃ (r : List Tr) (a : Tr), AllOk (a :: r) ∧ e.take (i + 1) = flats r ++ a.flat := by
  simp only [expOk, Bool.and_eq_true, decide_eq_true_eq] at h
  have h2 := h.2
  rw [← List.take_append_drop (i + 1) e, hgt_append] at h2
  obtain ⟨k, hk, _⟩ := Option.bind_eq_some_iff.1 h2
  obtain ⟨st, k1, k2, k3⟩ := pile_run (e.take (i + 1)) [] k trivial hk
  match st, k1, k2 with
  | [], _, k2 =>
    have : (e.take (i + 1)).length = 0 := by rw [show e.take (i + 1) = [] by simpa [flats] using k2.symm]; rfl
    rw [List.length_take] at this; omega
  | a :: r, k1, k2 => exact ⟨r, a, k1, by simpa [flats] using k2.symm⟩

/-! ### Back from a place to where its expression begins -/
/-- Backwards over a list (its last one first), n being missing: how many are left when none is. -/
def bk : List Tm → Int → Option Nat
  | [], _ => none
  | t :: l, n => if n - 1 + tks t.op = 0 then some l.length else bk l (n - 1 + tks t.op)
theorem bk_tree (a : Tr) : a.Ok → ∀ (l : List Tm) (n : Int), 1 ≤ n → bk (a.flat.reverse ++ l) n = if n = 1 then some l.length else bk l (n - 1) := by
  induction a with
  | t0 t =>
    intro ho l n hn
    simp only [Tr.flat, List.reverse_singleton, List.singleton_append, bk, ho.2]
    by_cases h : n = 1
    · rw [if_pos (by omega), if_pos h]
    · rw [if_neg (by omega), if_neg h]; congr 1; omega
  | t1 t a iha =>
    intro ho l n hn
    have e : (Tr.t1 t a).flat.reverse ++ l = t :: (a.flat.reverse ++ l) := by simp [Tr.flat]
    rw [e, bk, ho.2.1, if_neg (by omega), iha ho.2.2 l _ (by omega)]
    by_cases h : n = 1
    · rw [if_pos (by omega), if_pos h]
    · rw [if_neg (by omega), if_neg h]; congr 1; omega
  | t2 t a b iha ihb =>
    intro ho l n hn
    have e : (Tr.t2 t a b).flat.reverse ++ l = t :: (b.flat.reverse ++ (a.flat.reverse ++ l)) := by simp [Tr.flat]
    rw [e, bk, ho.2.1, if_neg (by omega), ihb ho.2.2.2 _ _ (by omega), if_neg (by omega), iha ho.2.2.1 l _ (by omega)]
    by_cases h : n = 1
    · rw [if_pos (by omega), if_pos h]
    · rw [if_neg (by omega), if_neg h]; congr 1; omega
  | t3 t a b c iha ihb ihc =>
    intro ho l n hn
    have e : (Tr.t3 t a b c).flat.reverse ++ l = t :: (c.flat.reverse ++ (b.flat.reverse ++ (a.flat.reverse ++ l))) := by simp [Tr.flat]
    rw [e, bk, ho.2.1, if_neg (by omega), ihc ho.2.2.2.2 _ _ (by omega), if_neg (by omega), ihb ho.2.2.2.1 _ _ (by omega), if_neg (by omega), iha ho.2.2.1 l _ (by omega)]
    by_cases h : n = 1
    · rw [if_pos (by omega), if_pos h]
    · rw [if_neg (by omega), if_neg h]; congr 1; omega
/-- Where the expression begins that ends with the last one of these. -/
theorem bk_begin {pre : List Tm} {a : Tr} (h : a.Ok) : bk (pre ++ a.flat).reverse 1 = some pre.length := by
  rw [List.reverse_append, bk_tree a h _ _ (by omega), if_pos rfl, List.length_reverse]
/-- The parts of a tree, as lists. -/
def Tr.kids : Tr → List (List Tm)
  | .t0 _ => []
  | .t1 _ a => [a.flat]
  | .t2 _ a b => [a.flat, b.flat]
  | .t3 _ a b c => [a.flat, b.flat, c.flat]
def Tr.last : Tr → Tm
  | .t0 t => t
  | .t1 t _ => t
  | .t2 t _ _ => t
  | .t3 t _ _ _ => t
theorem Tr.flat_kids (a : Tr) : a.flat = a.kids.flatten ++ [a.last] := by
  cases a <;> simp [Tr.flat, Tr.kids, Tr.last]
theorem Tr.kids_len {a : Tr} (h : a.Ok) : (a.kids.length : Int) = tks a.last.op := by
  cases a with
  | t0 t => simp only [Tr.kids, Tr.last, h.2]; rfl
  | t1 t a => simp only [Tr.kids, Tr.last, h.2.1]; rfl
  | t2 t a b => simp only [Tr.kids, Tr.last, h.2.1]; rfl
  | t3 t a b c => simp only [Tr.kids, Tr.last, h.2.1]; rfl
end Go.Eng.C
