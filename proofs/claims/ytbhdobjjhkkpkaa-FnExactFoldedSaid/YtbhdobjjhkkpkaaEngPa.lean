/- Plain words, without any program: expressions, programs, reckoning, traps. -/
import Derived.Test.YtbhdobjjhkkpkaaEngB3
/- Small words for the pure side, without any program. -/
namespace Go.Eng.C
open Go Go.RowKit
set_option linter.unusedVariables false
set_option linter.unusedSimpArgs false

def rd (l : List Int) (i : Int) : Int := l.getD i.toNat 0
theorem wrap_id {x : Int} (h0 : -9223372036854775808 ≤ x) (h1 : x ≤ 9223372036854775807) : wrap64 x = x := by
  unfold wrap64; omega
theorem wf_i64 {x : Int} (h : (Lit.int .i64 x).wf = true) : -9223372036854775808 ≤ x ∧ x ≤ 9223372036854775807 := by
  have h' : (decide (IntKind.i64.min ≤ x) && decide (x ≤ IntKind.i64.max)) = true := h
  rw [show IntKind.i64.min = -9223372036854775808 from rfl, show IntKind.i64.max = 9223372036854775807 from rfl, Bool.and_eq_true, decide_eq_true_eq, decide_eq_true_eq] at h'
  exact h'

theorem rd_cast (l : List Int) (i : Nat) : rd l (i : Int) = l.getD i 0 := by simp [rd]
theorem rd_lt (l : List Int) (i : Nat) (h : i < l.length) : rd l (i : Int) = l[i] := by simp [rd, h]
theorem drop_rd (l : List Int) (i : Nat) (h : i < l.length) : l.drop i = rd l (i : Int) :: l.drop (i + 1) := by
  rw [rd_lt l i h, List.drop_eq_getElem_cons h]
theorem take_rd (l : List Int) (i : Nat) (h : i < l.length) : l.take (i + 1) = l.take i ++ [rd l (i : Int)] := by
  rw [rd_lt l i h, List.take_succ_eq_append_getElem h]

theorem wrap_succ {i : Nat} (h : i < 9223372036854775807) : wrap64 ((i : Int) + 1) = ((i + 1 : Nat) : Int) := by
  unfold wrap64; omega
theorem wrap_pred {i : Nat} (h : i < 9223372036854775807) : wrap64 (((i + 1 : Nat) : Int) - 1) = (i : Int) := by
  unfold wrap64; omega
theorem ext_at {α : Type} {a b : List α} (hl : a.length = b.length) (h : ∀ j, j < b.length → a[j]? = b[j]?) : a = b := by
  apply List.ext_getElem?
  intro j
  by_cases hj : j < b.length
  · exact h j hj
  · rw [List.getElem?_eq_none (by omega), List.getElem?_eq_none (by omega)]
/-- m, m + 1, .. : n of them. -/
def ups (m : Int) (n : Nat) : List Int := (List.range n).map fun (j : Nat) => m + (j : Int)
theorem ups_len (m : Int) (n : Nat) : (ups m n).length = n := by simp [ups]
theorem ups_at {m : Int} {n j : Nat} (h : j < n) : (ups m n)[j]? = some (m + (j : Int)) := by simp [ups, h]
theorem ups_rd {m : Int} {n j : Nat} (h : j < n) : rd (ups m n) (j : Int) = m + (j : Int) := by
  rw [rd_cast, List.getD_eq_getElem?_getD, ups_at h]; rfl
/-- How many a Term takes. -/
def tks (a : Int) : Int := if a = 0 ∨ a = 1 then 0 else if a = 2 ∨ a = 3 ∨ a = 4 then 1 else if 5 ≤ a ∧ a ≤ 16 then 2 else if a = 17 then 3 else -1
end Go.Eng.C
/- Terms, expressions and their trees, in plain Lean: what ExpOk asks, what an expression is made of, where its parts begin. No program in sight. -/
namespace Go.Eng.C
open Go Go.RowKit
set_option linter.unusedVariables false
set_option linter.unusedSimpArgs false

structure Tm where
  op : Int
  n : Int
theorem Tm.ext' {a b : Tm} (h : a.op = b.op) (k : a.n = b.n) : a = b := by
  cases a; cases b; simp at h k; subst h; subst k; rfl
def tmOk (t : Tm) : Prop := 0 ≤ tks t.op ∧ 0 ≤ t.n ∧ t.n ≤ 255 ∧ (t.op > 2 → t.n = 0)
instance (t : Tm) : Decidable (tmOk t) := by unfold tmOk; infer_instance
theorem tks_range (a : Int) : -1 ≤ tks a ∧ tks a ≤ 3 := by
  unfold tks
  split
  · omega
  split
  · omega
  split
  · omega
  split <;> omega
/-- How many stand there behind these, if each finds what it takes. -/
def hgt : List Tm → Int → Option Int
  | [], h => some h
  | t :: l, h => if tmOk t ∧ tks t.op ≤ h then hgt l (h + (1 - tks t.op)) else none
def expOk (e : List Tm) : Bool := decide (e.length ≤ 3000) && decide (hgt e 0 = some 1)

inductive Tr where
  | t0 (t : Tm)
  | t1 (t : Tm) (a : Tr)
  | t2 (t : Tm) (a b : Tr)
  | t3 (t : Tm) (a b c : Tr)
def Tr.flat : Tr → List Tm
  | .t0 t => [t]
  | .t1 t a => a.flat ++ [t]
  | .t2 t a b => a.flat ++ b.flat ++ [t]
  | .t3 t a b c => a.flat ++ b.flat ++ c.flat ++ [t]
def Tr.Ok : Tr → Prop
  | .t0 t => tmOk t ∧ tks t.op = 0
  | .t1 t a => tmOk t ∧ tks t.op = 1 ∧ a.Ok
  | .t2 t a b => tmOk t ∧ tks t.op = 2 ∧ a.Ok ∧ b.Ok
  | .t3 t a b c => tmOk t ∧ tks t.op = 3 ∧ a.Ok ∧ b.Ok ∧ c.Ok
theorem Tr.flat_pos (a : Tr) : 0 < a.flat.length := by cases a <;> simp [Tr.flat] <;> omega
/-- The pile's texts, the lowest first (the top is the list's head). -/
def flats : List Tr → List Tm
  | [] => []
  | a :: r => flats r ++ a.flat
def AllOk : List Tr → Prop
  | [] => True
  | a :: r => a.Ok ∧ AllOk r
/-- One Term on a pile. -/
theorem pile_step {t : Tm} {st : List Tr} (ho : AllOk st) (ht : tmOk t) (hk : tks t.op ≤ (st.length : Int)) :
    ∃ a r, AllOk (a :: r) ∧ flats (a :: r) = flats st ++ [t] ∧ ((r.length + 1 : Nat) : Int) = (st.length : Int) + (1 - tks t.op) := by
  have hr := tks_range t.op
  have h0 := ht.1
  have hc : tks t.op = 0 ∨ tks t.op = 1 ∨ tks t.op = 2 ∨ tks t.op = 3 := by omega
  rcases hc with hc | hc | hc | hc
  · exact ⟨.t0 t, st, ⟨⟨ht, hc⟩, ho⟩, by simp [flats, Tr.flat], by rw [hc]; omega⟩
  · match st, ho, hk with
    | [], _, hk => simp [hc] at hk
    | a :: r, ho, _ => exact ⟨.t1 t a, r, ⟨⟨ht, hc, ho.1⟩, ho.2⟩, by simp [flats, Tr.flat], by simp [hc]⟩
  · match st, ho, hk with
    | [], _, hk => simp [hc] at hk
    | [_], _, hk => simp [hc] at hk
    | b :: a :: r, ho, _ => exact ⟨.t2 t a b, r, ⟨⟨ht, hc, ho.2.1, ho.1⟩, ho.2.2⟩, by simp [flats, Tr.flat], by simp [hc]; omega⟩
  · match st, ho, hk with
    | [], _, hk => simp [hc] at hk
    | [_], _, hk => simp [hc] at hk
    | [_, _], _, hk => simp [hc] at hk
    | c :: b :: a :: r, ho, _ => exact ⟨.t3 t a b c, r, ⟨⟨ht, hc, ho.2.2.1, ho.2.1, ho.1⟩, ho.2.2.2⟩, by simp [flats, Tr.flat], by simp [hc]; omega⟩
theorem pile_run (e : List Tm) : ∀ (st : List Tr) (h : Int), AllOk st → hgt e (st.length : Int) = some h → ∃ st', AllOk st' ∧ flats st' = flats st ++ e ∧ (st'.length : Int) = h := by
  induction e with
  | nil =>
    intro st h ho hh
    simp only [hgt, Option.some.injEq] at hh
    exact ⟨st, ho, by simp, hh⟩
  | cons t e ih =>
    intro st h ho hh
    rw [hgt] at hh
    by_cases c : tmOk t ∧ tks t.op ≤ (st.length : Int)
    · rw [if_pos c] at hh
      obtain ⟨a, r, h1, h2, h3⟩ := pile_step ho c.1 c.2
      rw [← h3] at hh
      obtain ⟨st', k1, k2, k3⟩ := ih (a :: r) h h1 hh
      exact ⟨st', k1, by rw [k2, h2]; simp, k3⟩
    · rw [if_neg c] at hh; cases hh
/-- A right expression is one tree. -/
theorem exp_tree {e : List Tm} (h : expOk e = true) : ∃ a : Tr, a.Ok ∧ a.flat = e ∧ e.length ≤ 3000 := by
  simp only [expOk, Bool.and_eq_true, decide_eq_true_eq] at h
  obtain ⟨st, h1, h2, h3⟩ := pile_run e [] 1 trivial h.2
  match st, h1, h2, h3 with
  | [], _, _, h3 => simp at h3
  | [a], h1, h2, _ => exact ⟨a, h1.1, by simpa [flats] using h2, h.1⟩
  | _ :: _ :: _, _, _, h3 => simp at h3; omega
theorem hgt_append (a b : List Tm) : ∀ h : Int, hgt (a ++ b) h = (hgt a h).bind fun k => hgt b k := by
  induction a with
  | nil => intro h; simp [hgt]
  | cons t a ih =>
    intro h
    simp only [List.cons_append, hgt]
    split
    · exact ih _
    · rfl
theorem tree_hgt (a : Tr) : a.Ok → ∀ h : Int, 0 ≤ h → hgt a.flat h = some (h + 1) := by
  induction a with
  | t0 t =>
    intro ho h hh
    rw [Tr.flat, hgt, if_pos ⟨ho.1, by rw [ho.2]; exact hh⟩, hgt, ho.2]; simp
  | t1 t a iha =>
    intro ho h hh
    rw [Tr.flat, hgt_append, iha ho.2.2 h hh, Option.bind_some, hgt, if_pos ⟨ho.1, by rw [ho.2.1]; omega⟩, hgt, ho.2.1]; simp
  | t2 t a b iha ihb =>
    intro ho h hh
    rw [Tr.flat, hgt_append, hgt_append, iha ho.2.2.1 h hh, Option.bind_some, ihb ho.2.2.2 (h + 1) (by omega), Option.bind_some, hgt, if_pos ⟨ho.1, by rw [ho.2.1]; omega⟩, hgt, ho.2.1]
    congr 1; omega
  | t3 t a b c iha ihb ihc =>
    intro ho h hh
    rw [Tr.flat, hgt_append, hgt_append, hgt_append, iha ho.2.2.1 h hh, Option.bind_some, ihb ho.2.2.2.1 (h + 1) (by omega), Option.bind_some, ihc ho.2.2.2.2 (h + 1 + 1) (by omega), Option.bind_some, hgt, if_pos ⟨ho.1, by rw [ho.2.1]; omega⟩, hgt, ho.2.1]
    congr 1; omega
theorem tree_exp {a : Tr} (h : a.Ok) (hl : a.flat.length ≤ 3000) : expOk a.flat = true := by
  simp only [expOk, Bool.and_eq_true, decide_eq_true_eq]
  exact ⟨hl, tree_hgt a h 0 (by omega)⟩
/-- Up to any place of a right expression: a pile, and the tree that ends there on its top. -/
theorem exp_at {e : List Tm} (h : expOk e = true) {i : Nat} (hi : i < e.length) : ∃ (r : List Tr) (a : Tr), AllOk (a :: r) ∧ e.take (i + 1) = flats r ++ a.flat := by
  simp only [expOk, Bool.and_eq_true, decide_eq_true_eq] at h
  have h2 := h.2
  rw [← List.take_append_drop (i + 1) e, hgt_append] at h2
  obtain ⟨k, hk, _⟩ := Option.bind_eq_some_iff.1 h2
  obtain ⟨st, k1, k2, k3⟩ := pile_run (e.take (i + 1)) [] k trivial hk
  match st, k1, k2 with
  | [], _, k2 =>
    have : (e.take (i + 1)).length = 0 := by rw [show e.take (i + 1) = [] by simpa [flats] using k2.symm]; rfl
    rw [List.length_take] at this; omega
  | a :: r, k1, k2 => exact ⟨r, a, k1, by simpa [flats] using k2.symm⟩

/-! ### Back from a place to where its expression begins -/
/-- Backwards over a list (its last one first), n being missing: how many are left when none is. -/
def bk : List Tm → Int → Option Nat
  | [], _ => none
  | t :: l, n => if n - 1 + tks t.op = 0 then some l.length else bk l (n - 1 + tks t.op)
theorem bk_tree (a : Tr) : a.Ok → ∀ (l : List Tm) (n : Int), 1 ≤ n → bk (a.flat.reverse ++ l) n = if n = 1 then some l.length else bk l (n - 1) := by
  induction a with
  | t0 t =>
    intro ho l n hn
    simp only [Tr.flat, List.reverse_singleton, List.singleton_append, bk, ho.2]
    by_cases h : n = 1
    · rw [if_pos (by omega), if_pos h]
    · rw [if_neg (by omega), if_neg h]; congr 1; omega
  | t1 t a iha =>
    intro ho l n hn
    have e : (Tr.t1 t a).flat.reverse ++ l = t :: (a.flat.reverse ++ l) := by simp [Tr.flat]
    rw [e, bk, ho.2.1, if_neg (by omega), iha ho.2.2 l _ (by omega)]
    by_cases h : n = 1
    · rw [if_pos (by omega), if_pos h]
    · rw [if_neg (by omega), if_neg h]; congr 1; omega
  | t2 t a b iha ihb =>
    intro ho l n hn
    have e : (Tr.t2 t a b).flat.reverse ++ l = t :: (b.flat.reverse ++ (a.flat.reverse ++ l)) := by simp [Tr.flat]
    rw [e, bk, ho.2.1, if_neg (by omega), ihb ho.2.2.2 _ _ (by omega), if_neg (by omega), iha ho.2.2.1 l _ (by omega)]
    by_cases h : n = 1
    · rw [if_pos (by omega), if_pos h]
    · rw [if_neg (by omega), if_neg h]; congr 1; omega
  | t3 t a b c iha ihb ihc =>
    intro ho l n hn
    have e : (Tr.t3 t a b c).flat.reverse ++ l = t :: (c.flat.reverse ++ (b.flat.reverse ++ (a.flat.reverse ++ l))) := by simp [Tr.flat]
    rw [e, bk, ho.2.1, if_neg (by omega), ihc ho.2.2.2.2 _ _ (by omega), if_neg (by omega), ihb ho.2.2.2.1 _ _ (by omega), if_neg (by omega), iha ho.2.2.1 l _ (by omega)]
    by_cases h : n = 1
    · rw [if_pos (by omega), if_pos h]
    · rw [if_neg (by omega), if_neg h]; congr 1; omega
/-- Where the expression begins that ends with the last one of these. -/
theorem bk_begin {pre : List Tm} {a : Tr} (h : a.Ok) : bk (pre ++ a.flat).reverse 1 = some pre.length := by
  rw [List.reverse_append, bk_tree a h _ _ (by omega), if_pos rfl, List.length_reverse]
/-- The parts of a tree, as lists. -/
def Tr.kids : Tr → List (List Tm)
  | .t0 _ => []
  | .t1 _ a => [a.flat]
  | .t2 _ a b => [a.flat, b.flat]
  | .t3 _ a b c => [a.flat, b.flat, c.flat]
def Tr.last : Tr → Tm
  | .t0 t => t
  | .t1 t _ => t
  | .t2 t _ _ => t
  | .t3 t _ _ _ => t
theorem Tr.flat_kids (a : Tr) : a.flat = a.kids.flatten ++ [a.last] := by
  cases a <;> simp [Tr.flat, Tr.kids, Tr.last]
theorem Tr.kids_len {a : Tr} (h : a.Ok) : (a.kids.length : Int) = tks a.last.op := by
  cases a with
  | t0 t => simp only [Tr.kids, Tr.last, h.2]; rfl
  | t1 t a => simp only [Tr.kids, Tr.last, h.2.1]; rfl
  | t2 t a b => simp only [Tr.kids, Tr.last, h.2.1]; rfl
  | t3 t a b c => simp only [Tr.kids, Tr.last, h.2.1]; rfl
end Go.Eng.C
/- Expressions and their parts, in plain Lean. -/
namespace Go.Eng.C
open Go Go.RowKit
set_option linter.unusedVariables false
set_option linter.unusedSimpArgs false
def zt : Tm := ⟨0, 0⟩
/-- These Terms are one tree. -/
def IsTr (s : List Tm) : Prop := ∃ a : Tr, a.Ok ∧ a.flat = s
theorem IsTr.pos {s : List Tm} (h : IsTr s) : 0 < s.length := by
  obtain ⟨a, _, h2⟩ := h
  have := a.flat_pos
  rw [h2] at this; exact this
theorem kids_ok {a : Tr} (h : a.Ok) : ∀ k ∈ a.kids, ∃ b : Tr, b.Ok ∧ b.flat = k := by
  intro k hk
  cases a with
  | t0 t => simp [Tr.kids] at hk
  | t1 t a => simp only [Tr.kids, List.mem_singleton] at hk; subst hk; exact ⟨a, h.2.2, rfl⟩
  | t2 t a b =>
    simp only [Tr.kids, List.mem_cons, List.not_mem_nil, or_false] at hk
    rcases hk with rfl | rfl
    · exact ⟨a, h.2.2.1, rfl⟩
    · exact ⟨b, h.2.2.2, rfl⟩
  | t3 t a b c =>
    simp only [Tr.kids, List.mem_cons, List.not_mem_nil, or_false] at hk
    rcases hk with rfl | rfl | rfl
    · exact ⟨a, h.2.2.1, rfl⟩
    · exact ⟨b, h.2.2.2.1, rfl⟩
    · exact ⟨c, h.2.2.2.2, rfl⟩
/-- A right expression: its parts, and its last Term. -/
theorem parts_ex {x : List Tm} (h : expOk x = true) : ∃ (ks : List (List Tm)) (t : Tm), x = ks.flatten ++ [t] ∧ (∀ s ∈ ks, IsTr s) ∧ (ks.length : Int) = tks t.op ∧ ks.length ≤ 3 ∧ IsTr x ∧ x.length ≤ 3000 := by
  obtain ⟨a, ho, hf, hl⟩ := exp_tree h
  have hk := Tr.kids_len ho
  have hr := tks_range a.last.op
  exact ⟨a.kids, a.last, by rw [← hf, Tr.flat_kids], kids_ok ho, hk, by omega, ⟨a, ho, hf⟩, hl⟩
/-- From the end of a part back to its begin. -/
theorem seg_bk {p s r : List Tm} (h : IsTr s) : bk ((p ++ s ++ r).take (p.length + s.length)).reverse 1 = some p.length := by
  obtain ⟨a, h1, h2⟩ := h
  rw [show (p ++ s ++ r).take (p.length + s.length) = p ++ s by rw [← List.length_append]; exact List.take_left, ← h2, bk_begin h1]
theorem ks_split (ks : List (List Tm)) (i : Nat) (h : i < ks.length) : ks.flatten = (ks.take i).flatten ++ ks[i] ++ (ks.drop (i + 1)).flatten := by
  conv => lhs; rw [← List.take_append_drop i ks]
  rw [List.flatten_append, List.drop_eq_getElem_cons h, List.flatten_cons, List.append_assoc]
theorem ks_take (ks : List (List Tm)) (i : Nat) (h : i < ks.length) : (ks.take (i + 1)).flatten = (ks.take i).flatten ++ ks[i] := by
  rw [List.take_succ_eq_append_getElem h, List.flatten_append, List.flatten_cons, List.flatten_nil, List.append_nil]
theorem bk_step {x : List Tm} {i : Nat} (hi : i < x.length) (n : Int) : bk (x.take (i + 1)).reverse n = if n - 1 + tks (x.getD i zt).op = 0 then some i else bk (x.take i).reverse (n - 1 + tks (x.getD i zt).op) := by
  rw [List.take_succ_eq_append_getElem hi, List.reverse_append, List.reverse_singleton, List.singleton_append, bk, List.getD_eq_getElem?_getD, List.getElem?_eq_getElem hi, List.length_reverse, List.length_take, Nat.min_eq_left (by omega)]; rfl
theorem bk_lt {x : List Tm} : ∀ {i : Nat} {n : Int} {r : Nat}, i ≤ x.length → bk (x.take i).reverse n = some r → r < i
  | 0, n, r, hi, h => by simp [bk] at h
  | i + 1, n, r, hi, h => by
    rw [bk_step (by omega)] at h
    split at h
    · cases h; omega
    · have := bk_lt (by omega) h; omega
end Go.Eng.C
/- Programs and what makes them right, in plain Lean. No program in sight. -/
namespace Go.Eng.C
open Go Go.RowKit
set_option linter.unusedVariables false
set_option linter.unusedSimpArgs false
structure Inp where
  max : Int
  bud : Int
structure St where
  op : Int
  n : Int
  pl : List Tm
  ex : List Tm
structure Pr where
  w : Int
  lows : List Inp
  secs : List Inp
  temps : Int
  arrs : List Int
  body : List St
def sizeW (w : Int) : Int := 2 ^ w.toNat
def bitsN (n : Nat) : Int := if h : n = 0 then 0 else 1 + bitsN (n / 2)
termination_by n
decreasing_by omega
def insN (p : Pr) : Int := ((p.lows.length + p.secs.length : Nat) : Int)
def varsN (p : Pr) : Int := insN p + p.temps
def inOk (w : Int) (low : Bool) (x : Inp) : Prop := 0 ≤ x.max ∧ x.max ≤ sizeW w - 1 ∧ 0 ≤ x.bud ∧ x.bud ≤ 99 ∧ (low = true → x.bud = 0)
def sumBits : List Inp → Int
  | [] => 0
  | x :: l => bitsN x.max.toNat + sumBits l
def roomOk (p : Pr) : Prop := 0 ≤ p.temps ∧ p.temps ≤ 6 ∧ p.arrs.length ≤ 2 ∧ p.body.length ≤ 40 ∧ ∀ n ∈ p.arrs, 1 ≤ n ∧ n ≤ 6
/-- An expression names what there is. -/
def nameOk (p : Pr) (t : Tm) : Prop := (t.op = 0 → t.n < sizeW p.w) ∧ (t.op = 1 → t.n < varsN p) ∧ (t.op = 2 → t.n < (p.arrs.length : Int))
def reckOk (p : Pr) (e : List Tm) : Prop := expOk e = true ∧ ∀ t ∈ e, nameOk p t
def mayOk (p : Pr) (e : List Tm) : Prop := e.length ≤ 40 ∧ reckOk p e ∧ ∀ t ∈ e, t.op ≠ 17
/-- How large all is at most. -/
structure PB (p : Pr) : Prop where
  l : p.lows.length ≤ 1048576
  s : p.secs.length ≤ 1048576
  a : p.arrs.length ≤ 1048576
  b : p.body.length ≤ 1048576
  e : ∀ s ∈ p.body, s.pl.length ≤ 1048576 ∧ s.ex.length ≤ 1048576
def inputsOk (p : Pr) : Prop := p.lows.length ≤ 3 ∧ p.secs.length ≤ 3 ∧ (∀ x ∈ p.lows, inOk p.w true x) ∧ (∀ x ∈ p.secs, inOk p.w false x) ∧ sumBits p.lows + sumBits p.secs ≤ 10
def stOk (p : Pr) (s : St) : Prop :=
  (s.op = 0 ∧ s.pl.length = 0 ∧ mayOk p s.ex ∧ insN p ≤ s.n ∧ s.n ≤ varsN p - 1) ∨
  (s.op = 1 ∧ mayOk p s.pl ∧ mayOk p s.ex ∧ 0 ≤ s.n ∧ s.n ≤ (p.arrs.length : Int) - 1) ∨
  ((s.op = 2 ∨ s.op = 6) ∧ s.pl.length = 0 ∧ mayOk p s.ex ∧ s.n = 0) ∨
  (s.op = 5 ∧ s.pl.length = 0 ∧ s.ex.length = 0 ∧ 0 ≤ s.n ∧ s.n ≤ 4) ∨
  ((s.op = 7 ∨ s.op = 9) ∧ s.pl.length = 0 ∧ s.ex.length = 0 ∧ 0 ≤ s.n ∧ s.n ≤ 9) ∨
  ((s.op = 3 ∨ s.op = 4 ∨ s.op = 8) ∧ s.pl.length = 0 ∧ s.ex.length = 0 ∧ s.n = 0)
theorem hgt_nil (h : Int) : hgt [] h = some h := rfl
theorem expOk_pos {e : List Tm} (h : expOk e = true) : 0 < e.length := by
  cases e with
  | nil => simp [expOk, hgt] at h
  | cons => simp
theorem mayOk_pos {p : Pr} {e : List Tm} (h : mayOk p e) : 0 < e.length := expOk_pos h.2.1.1
theorem stOk0 {p : Pr} {s : St} (h : s.op = 0) : stOk p s ↔ s.pl.length = 0 ∧ mayOk p s.ex ∧ insN p ≤ s.n ∧ s.n ≤ varsN p - 1 := by simp [stOk, h]
theorem stOk1 {p : Pr} {s : St} (h : s.op = 1) : stOk p s ↔ mayOk p s.pl ∧ mayOk p s.ex ∧ 0 ≤ s.n ∧ s.n ≤ (p.arrs.length : Int) - 1 := by simp [stOk, h]
theorem stOk26 {p : Pr} {s : St} (h : s.op = 2 ∨ s.op = 6) : stOk p s ↔ s.pl.length = 0 ∧ mayOk p s.ex ∧ s.n = 0 := by rcases h with h | h <;> simp [stOk, h]
theorem stOk5 {p : Pr} {s : St} (h : s.op = 5) : stOk p s ↔ s.pl.length = 0 ∧ s.ex.length = 0 ∧ 0 ≤ s.n ∧ s.n ≤ 4 := by simp [stOk, h]
theorem stOk79 {p : Pr} {s : St} (h : s.op = 7 ∨ s.op = 9) : stOk p s ↔ s.pl.length = 0 ∧ s.ex.length = 0 ∧ 0 ≤ s.n ∧ s.n ≤ 9 := by rcases h with h | h <;> simp [stOk, h]
theorem stOk348 {p : Pr} {s : St} (h : s.op = 3 ∨ s.op = 4 ∨ s.op = 8) : stOk p s ↔ s.pl.length = 0 ∧ s.ex.length = 0 ∧ s.n = 0 := by rcases h with h | h | h <;> simp [stOk, h]
theorem stOkN {p : Pr} {s : St} (h : ¬ (0 ≤ s.op ∧ s.op ≤ 9)) : ¬ stOk p s := by unfold stOk; omega
theorem bitsN_le (n : Nat) : 0 ≤ bitsN n ∧ bitsN n ≤ n := by
  induction n using Nat.strongRecOn with
  | ind n ih =>
    rw [bitsN]
    split
    · omega
    · have := ih (n / 2) (by omega)
      omega
theorem sumBits_take (l : List Inp) (i : Nat) (h : i < l.length) (z : Inp) : sumBits (l.take (i + 1)) = sumBits (l.take i) + bitsN (l.getD i z).max.toNat := by
  induction l generalizing i with
  | nil => simp at h
  | cons x l ih =>
    cases i with
    | zero => simp [sumBits]
    | succ i =>
      have := ih i (by simpa using h)
      simp only [List.take_succ_cons, sumBits, List.getD_cons_succ, this]; omega
theorem sumBits_le (l : List Inp) (h : ∀ x ∈ l, 0 ≤ x.max ∧ x.max ≤ 255) : 0 ≤ sumBits l ∧ sumBits l ≤ 255 * l.length := by
  induction l with
  | nil => simp [sumBits]
  | cons x l ih =>
    have h1 := ih fun y hy => h y (List.mem_cons_of_mem _ hy)
    have h2 := h x (by simp)
    have h3 := bitsN_le x.max.toNat
    simp only [sumBits, List.length_cons]; omega
end Go.Eng.C
/- Blocks of statements and their nodes, in plain Lean. No program in sight. -/
namespace Go.Eng.C
open Go Go.RowKit
set_option linter.unusedVariables false
set_option linter.unusedSimpArgs false
/-- Nodes: where each stands, what is within it, what is behind its middle; the others. -/
inductive Ns where
  | nil
  | cons (a : Nat) (b o r : Ns)
def Ns.toL : Ns → List (Nat × Ns × Ns)
  | .nil => []
  | .cons a b o r => (a, b, o) :: r.toL
def zst : St := ⟨0, 0, [], []⟩
def opA (x : List St) (a : Nat) : Int := (x.getD a zst).op
def isA (x : List St) (a : Nat) (c : Int) : Prop := a < x.length ∧ opA x a = c
instance (x : List St) (a : Nat) (c : Int) : Decidable (isA x a c) := by unfold isA; infer_instance
/-- The end of what begins at a place, behind what stands within it. -/
def nd (x : List St) (f : Nat → Option (Nat × Ns)) (a : Nat) : Option (Int × Nat × Ns × Ns) :=
  match f (a + 1) with
  | none => none
  | some (c, b) =>
    if isA x c 4 ∧ opA x a ≠ 8 then some (-1, c, b, .nil)
    else if (opA x a = 2 ∧ isA x c 3) ∨ (opA x a = 8 ∧ isA x c 9) then
      match f (c + 1) with
      | none => none
      | some (e, o) => if isA x e 4 then some ((c : Int), e, b, o) else none
    else none
def stopA (x : List St) (a : Nat) : Prop := opA x a = 3 ∨ opA x a = 4 ∨ opA x a = 9
def nestA (x : List St) (a : Nat) : Prop := opA x a = 2 ∨ opA x a = 5 ∨ opA x a = 8
instance (x : List St) (a : Nat) : Decidable (stopA x a) := by unfold stopA; infer_instance
instance (x : List St) (a : Nat) : Decidable (nestA x a) := by unfold nestA; infer_instance
def blk (x : List St) : Nat → Nat → Option (Nat × Ns)
  | 0, a => some (a, .nil)
  | n + 1, a =>
    if a < x.length then
      if stopA x a then some (a, .nil)
      else if nestA x a then
        match nd x (blk x n) a with
        | none => none
        | some (_, e, b, o) => (blk x n (e + 1)).map fun r => (r.1, .cons a b o r.2)
      else (blk x n (a + 1)).map fun r => (r.1, .cons a .nil .nil r.2)
    else some (a, .nil)
theorem nd_le {x : List St} {f : Nat → Option (Nat × Ns)} (hf : ∀ a s r, f a = some (s, r) → a ≤ s) {a e : Nat} {m : Int} {b o : Ns} (h : nd x f a = some (m, e, b, o)) : a < e ∧ e < x.length ∧ (m = -1 ∨ ∃ c : Nat, m = c ∧ a < c ∧ c < e) := by
  unfold nd at h
  split at h
  · cases h
  · rename_i c b' h1
    have l1 := hf _ _ _ h1
    split at h
    · rename_i h2
      simp only [Option.some.injEq, Prod.mk.injEq] at h
      obtain ⟨rfl, rfl, rfl, rfl⟩ := h
      exact ⟨by omega, h2.1.1, .inl rfl⟩
    · split at h
      · split at h
        · cases h
        · rename_i e' o' h3
          have l2 := hf _ _ _ h3
          split at h
          · rename_i h4
            simp only [Option.some.injEq, Prod.mk.injEq] at h
            obtain ⟨rfl, rfl, rfl, rfl⟩ := h
            exact ⟨by omega, h4.1, .inr ⟨c, rfl, by omega, by omega⟩⟩
          · cases h
      · cases h
theorem blk_le {x : List St} : ∀ (n a s : Nat) (r : Ns), blk x n a = some (s, r) → a ≤ s
  | 0, a, s, r, h => by simp only [blk, Option.some.injEq, Prod.mk.injEq] at h; omega
  | n + 1, a, s, r, h => by
    simp only [blk] at h
    split at h
    · split at h
      · simp only [Option.some.injEq, Prod.mk.injEq] at h; omega
      · split at h
        · split at h
          · cases h
          · rename_i m e b o h1
            have l1 := nd_le (blk_le n) h1
            simp only [Option.map_eq_some_iff] at h
            obtain ⟨⟨s', r'⟩, h2, h3⟩ := h
            simp only [Prod.mk.injEq] at h3
            have l2 := blk_le n _ _ _ h2
            omega
        · simp only [Option.map_eq_some_iff] at h
          obtain ⟨⟨s', r'⟩, h2, h3⟩ := h
          simp only [Prod.mk.injEq] at h3
          have l2 := blk_le n _ _ _ h2
          omega
    · simp only [Option.some.injEq, Prod.mk.injEq] at h; omega
theorem nd_congr {x : List St} {f g : Nat → Option (Nat × Ns)} {a : Nat} (hf : ∀ a s r, f a = some (s, r) → a ≤ s) (h : ∀ c, a < c → f c = g c) : nd x f a = nd x g a := by
  unfold nd
  rw [← h (a + 1) (by omega)]
  split
  · rfl
  · rename_i c b h1
    have l1 := hf _ _ _ h1
    rw [← h (c + 1) (by omega)]
theorem blk_fuel {x : List St} : ∀ (n m a : Nat), x.length < n + a → x.length < m + a → blk x n a = blk x m a
  | 0, 0, a, h1, h2 => rfl
  | 0, m + 1, a, h1, h2 => by simp only [blk]; rw [if_neg (by omega)]
  | n + 1, 0, a, h1, h2 => by simp only [blk]; rw [if_neg (by omega)]
  | n + 1, m + 1, a, h1, h2 => by
    simp only [blk]
    have key : ∀ c, a < c → blk x n c = blk x m c := fun c hc => blk_fuel n m c (by omega) (by omega)
    rw [nd_congr (blk_le n) key, key (a + 1) (by omega)]
    split
    · split
      · rfl
      · split
        · split
          · rfl
          · rename_i m' e b o h
            have l := nd_le (blk_le m) h
            rw [key (e + 1) (by omega)]
        · rfl
    · rfl
/-- The block that begins at a place: where it stops, its nodes. -/
def B (x : List St) (a : Nat) : Option (Nat × Ns) := blk x (x.length + 1) a
def E (x : List St) (a : Nat) : Option (Int × Nat × Ns × Ns) := if nestA x a then nd x (B x) a else none
theorem B_le {x : List St} {a s : Nat} {r : Ns} (h : B x a = some (s, r)) : a ≤ s := blk_le _ _ _ _ h
theorem E_le {x : List St} {a e : Nat} {m : Int} {b o : Ns} (h : E x a = some (m, e, b, o)) : a < e ∧ e < x.length ∧ (m = -1 ∨ ∃ c : Nat, m = c ∧ a < c ∧ c < e) := by
  unfold E at h
  split at h
  · exact nd_le (fun _ _ _ => B_le) h
  · cases h
theorem B_end {x : List St} {a : Nat} (h : ¬ a < x.length) : B x a = some (a, .nil) := by simp only [B, blk]; rw [if_neg h]
theorem B_stop {x : List St} {a : Nat} (h : a < x.length) (hs : stopA x a) : B x a = some (a, .nil) := by simp only [B, blk]; rw [if_pos h, if_pos hs]
theorem B_leaf {x : List St} {a : Nat} (h : a < x.length) (hs : ¬ stopA x a) (hn : ¬ nestA x a) : B x a = (B x (a + 1)).map fun r => (r.1, .cons a .nil .nil r.2) := by
  simp only [B]
  rw [blk, if_pos h, if_neg hs, if_neg hn, blk_fuel x.length (x.length + 1) (a + 1) (by omega) (by omega)]
theorem B_nest {x : List St} {a : Nat} (h : a < x.length) (hn : nestA x a) : B x a = match E x a with
    | none => none
    | some (_, e, b, o) => (B x (e + 1)).map fun r => (r.1, .cons a b o r.2) := by
  have hs : ¬ stopA x a := by unfold nestA at hn; unfold stopA; omega
  have hE : E x a = nd x (blk x x.length) a := by
    unfold E
    rw [if_pos hn]
    exact nd_congr (fun _ _ _ => B_le) (fun c hc => blk_fuel _ _ _ (by omega) (by omega))
  rw [hE]
  unfold B
  rw [blk, if_pos h, if_neg hs, if_pos hn]
  split
  · rfl
  · rename_i m e b o h1
    have l := nd_le (blk_le _) h1
    rw [blk_fuel x.length (x.length + 1) (e + 1) (by omega) (by omega)]
theorem B_lt {x : List St} {a s : Nat} {r : Ns} (h : B x a = some (s, r)) (ha : a ≤ x.length) : s ≤ x.length := by
  have : ∀ k a, x.length - a ≤ k → a ≤ x.length → ∀ s r, B x a = some (s, r) → s ≤ x.length := by
    intro k
    induction k with
    | zero =>
      intro a h1 h2 s r h
      rw [B_end (by omega)] at h
      simp only [Option.some.injEq, Prod.mk.injEq] at h; omega
    | succ k ih =>
      intro a h1 h2 s r h
      by_cases hl : a < x.length
      · by_cases hs : stopA x a
        · rw [B_stop hl hs] at h
          simp only [Option.some.injEq, Prod.mk.injEq] at h; omega
        · by_cases hn : nestA x a
          · rw [B_nest hl hn] at h
            split at h
            · cases h
            · rename_i m e b o hE
              have l := E_le hE
              simp only [Option.map_eq_some_iff] at h
              obtain ⟨⟨s', r'⟩, h4, h5⟩ := h
              simp only [Prod.mk.injEq] at h5
              have := ih (e + 1) (by omega) (by omega) s' r' h4
              omega
          · rw [B_leaf hl hs hn] at h
            simp only [Option.map_eq_some_iff] at h
            obtain ⟨⟨s', r'⟩, h4, h5⟩ := h
            simp only [Prod.mk.injEq] at h5
            have := ih (a + 1) (by omega) (by omega) s' r' h4
            omega
      · rw [B_end hl] at h
        simp only [Option.some.injEq, Prod.mk.injEq] at h; omega
  exact this _ a (Nat.le_refl _) ha s r h
def stopI : Option (Nat × Ns) → Int
  | none => -1
  | some (s, _) => s
def midI : Option (Int × Nat × Ns × Ns) → Int
  | none => -1
  | some (m, _) => m
def endI : Option (Int × Nat × Ns × Ns) → Int
  | none => -1
  | some (_, e, _) => e
theorem stop_none {x : List St} {c : Nat} (hc : c < x.length) (hn : nestA x c) (hE : E x c = none) : stopI (B x c) = -1 := by rw [B_nest hc hn, hE]; rfl
theorem stop_some {x : List St} {c e : Nat} {m : Int} {b o : Ns} (hc : c < x.length) (hn : nestA x c) (hE : E x c = some (m, e, b, o)) : stopI (B x c) = stopI (B x (e + 1)) := by
  rw [B_nest hc hn, hE]
  dsimp only
  cases B x (e + 1) <;> rfl
theorem stop_leaf {x : List St} {c : Nat} (hc : c < x.length) (hs : ¬ stopA x c) (hn : ¬ nestA x c) : stopI (B x c) = stopI (B x (c + 1)) := by
  rw [B_leaf hc hs hn]
  cases B x (c + 1) <;> rfl
/-- From a place to where its block stops: the nodes between. -/
inductive Bk (x : List St) : Nat → Nat → Ns → Prop
  | nil (a : Nat) (h : a < x.length → stopA x a) : Bk x a a .nil
  | leaf {a s : Nat} {r : Ns} (h : a < x.length) (hs : ¬ stopA x a) (hn : ¬ nestA x a) (hr : Bk x (a + 1) s r) : Bk x a s (.cons a .nil .nil r)
  | one {a e s : Nat} {b r : Ns} (h : a < x.length) (hn : opA x a = 2 ∨ opA x a = 5) (hb : Bk x (a + 1) e b) (he : isA x e 4) (hE : E x a = some (-1, e, b, .nil)) (hr : Bk x (e + 1) s r) : Bk x a s (.cons a b .nil r)
  | two {a c e s : Nat} {b o r : Ns} (h : a < x.length) (hn : (opA x a = 2 ∧ isA x c 3) ∨ (opA x a = 8 ∧ isA x c 9)) (hb : Bk x (a + 1) c b) (ho : Bk x (c + 1) e o) (he : isA x e 4) (hE : E x a = some ((c : Int), e, b, o)) (hr : Bk x (e + 1) s r) : Bk x a s (.cons a b o r)
theorem Bk.le {x : List St} {a s : Nat} {r : Ns} (h : Bk x a s r) : a ≤ s := by
  induction h with
  | nil => exact Nat.le_refl _
  | leaf _ _ _ _ ih => omega
  | one _ _ _ _ _ _ ih1 ih2 => omega
  | two _ _ _ _ _ _ _ ih1 ih2 ih3 => omega
theorem Bk.lt {x : List St} {a s : Nat} {r : Ns} (h : Bk x a s r) (ha : a ≤ x.length) : s ≤ x.length := by
  induction h with
  | nil => exact ha
  | leaf h _ _ _ ih => exact ih (by omega)
  | one h _ _ he _ _ _ ih2 => exact ih2 (by have := he.1; omega)
  | two h _ _ _ he _ _ _ _ ih3 => exact ih3 (by have := he.1; omega)
theorem B_bk {x : List St} : ∀ (k a s : Nat) (r : Ns), x.length - a ≤ k → a ≤ x.length → B x a = some (s, r) → Bk x a s r := by
  intro k
  induction k with
  | zero =>
    intro a s r h1 h2 h
    rw [B_end (by omega)] at h
    simp only [Option.some.injEq, Prod.mk.injEq] at h
    obtain ⟨rfl, rfl⟩ := h
    exact .nil _ (fun h => absurd h (by omega))
  | succ k ih =>
    intro a s r h1 h2 h
    by_cases hl : a < x.length
    · by_cases hs : stopA x a
      · rw [B_stop hl hs] at h
        simp only [Option.some.injEq, Prod.mk.injEq] at h
        obtain ⟨rfl, rfl⟩ := h
        exact .nil _ (fun _ => hs)
      · by_cases hn : nestA x a
        · rw [B_nest hl hn] at h
          cases hE : E x a with
          | none => rw [hE] at h; cases h
          | some q =>
            obtain ⟨m, e, b, o⟩ := q
            rw [hE] at h
            have hle := (E_le hE).1
            have hle2 := (E_le hE).2.1
            simp only [Option.map_eq_some_iff] at h
            obtain ⟨⟨s', r'⟩, h4, h5⟩ := h
            simp only [Prod.mk.injEq] at h5
            obtain ⟨rfl, rfl⟩ := h5
            have hr := ih (e + 1) s' r' (by omega) (by omega) h4
            have hE' := hE
            simp only [E, if_pos hn, nd] at hE'
            cases hb : B x (a + 1) with
            | none => rw [hb] at hE'; cases hE'
            | some cb =>
              obtain ⟨c, b'⟩ := cb
              have hbk := ih (a + 1) c b' (by omega) (by omega) hb
              have hcl := B_lt hb (by omega)
              have hcle := B_le hb
              rw [hb] at hE'
              dsimp only at hE'
              split at hE'
              · rename_i h6
                simp only [Option.some.injEq, Prod.mk.injEq] at hE'
                obtain ⟨rfl, rfl, rfl, rfl⟩ := hE'
                exact .one hl (by unfold nestA at hn; omega) hbk h6.1 hE hr
              · split at hE'
                · rename_i h6 h7
                  have hc : c < x.length := by rcases h7 with h | h <;> exact h.2.1
                  cases ho : B x (c + 1) with
                  | none => rw [ho] at hE'; cases hE'
                  | some eo =>
                    obtain ⟨e', o'⟩ := eo
                    rw [ho] at hE'
                    dsimp only at hE'
                    split at hE'
                    · rename_i h8
                      simp only [Option.some.injEq, Prod.mk.injEq] at hE'
                      obtain ⟨rfl, rfl, rfl, rfl⟩ := hE'
                      exact .two hl h7 hbk (ih (c + 1) e' o' (by omega) (by omega) ho) h8 hE hr
                    · cases hE'
                · cases hE'
        · rw [B_leaf hl hs hn] at h
          simp only [Option.map_eq_some_iff] at h
          obtain ⟨⟨s', r'⟩, h4, h5⟩ := h
          simp only [Prod.mk.injEq] at h5
          obtain ⟨rfl, rfl⟩ := h5
          exact .leaf hl hs hn (ih (a + 1) s' r' (by omega) (by omega) h4)
    · rw [B_end hl] at h
      simp only [Option.some.injEq, Prod.mk.injEq] at h
      obtain ⟨rfl, rfl⟩ := h
      exact .nil _ (fun h => absurd h hl)
theorem mmmc (a b c d : Int) : a * b * (c * d) = a * c * (b * d) := by rw [Int.mul_assoc, Int.mul_assoc, Int.mul_left_comm b c d]
/-- How often a loop goes. -/
def nA (x : List St) (a : Nat) : Int := (x.getD a zst).n
/-- The steps of nodes. -/
def stp (x : List St) : Ns → Int
  | .nil => 0
  | .cons a b o r => (if opA x a = 2 then 1 + max (stp x b) (stp x o) else if opA x a = 5 then 1 + nA x a * (1 + stp x b) else if opA x a = 8 then 1 + stp x b + stp x o else 1) + stp x r
/-- All loops go no more than four times. -/
def loopOk (x : List St) : Prop := ∀ a, a < x.length → opA x a = 5 → 0 ≤ nA x a ∧ nA x a ≤ 4
theorem stp_step {x : List St} (hx : loopOk x) {a s : Nat} {r : Ns} (h : Bk x a s r) : 0 ≤ stp x r ∧ (stp x r + 1) * (stp x r + 1) ≤ 6 ^ (s - a) := by
  have mul : ∀ {p q u v : Int}, 0 ≤ p → 0 ≤ u → p ≤ q → u ≤ v → p * u ≤ q * v := fun hp hu h1 h2 => Int.mul_le_mul h1 h2 hu (by omega)
  have sq : ∀ {p q : Int}, 0 ≤ p → p ≤ q → p * p ≤ q * q := fun hp h => mul hp hp h h
  induction h with
  | nil a h => simp [stp]
  | @leaf a s r h hs hn hr ih =>
    have e : stp x (.cons a .nil .nil r) = 1 + stp x r := by
      unfold nestA at hn
      simp only [stp]
      rw [if_neg (by omega), if_neg (by omega), if_neg (by omega)]
    have hle := hr.le
    rw [e]
    refine ⟨by omega, ?_⟩
    have e2 : s - a = (s - (a + 1)) + 1 := by omega
    rw [e2, Int.pow_succ]
    generalize stp x r = t at *
    generalize (6 : Int) ^ (s - (a + 1)) = z at *
    have : (1 + t + 1) * (1 + t + 1) ≤ (2 * (t + 1)) * (2 * (t + 1)) := sq (by omega) (by omega)
    have hsq : 0 ≤ (t + 1) * (t + 1) := Int.mul_nonneg (by omega) (by omega)
    have e3 : (2 * (t + 1)) * (2 * (t + 1)) = 4 * ((t + 1) * (t + 1)) := by rw [mmmc]; rfl
    rw [e3] at this
    omega
  | @one a e s b r h hn hb he hE hr ih1 ih2 =>
    have hle1 := hb.le
    have hle2 := hr.le
    have key : 0 ≤ stp x (.cons a b .nil r) ∧ stp x (.cons a b .nil r) + 1 ≤ 6 * ((stp x b + 1) * (stp x r + 1)) := by
      have hpos : (stp x b + 1) * 1 ≤ (stp x b + 1) * (stp x r + 1) := Int.mul_le_mul_of_nonneg_left (by omega) (by omega)
      have hpos2 : 1 * (stp x r + 1) ≤ (stp x b + 1) * (stp x r + 1) := Int.mul_le_mul_of_nonneg_right (by omega) (by omega)
      simp only [stp]
      generalize stp x b = t at *
      generalize stp x r = u at *
      generalize (t + 1) * (u + 1) = z at *
      rcases hn with hn | hn
      · rw [if_pos hn]; omega
      · rw [if_neg (by omega), if_pos hn]
        have hl := hx a h hn
        have m1 : nA x a * (1 + t) ≤ 4 * (1 + t) := Int.mul_le_mul_of_nonneg_right hl.2 (by omega)
        have m2 : 0 ≤ nA x a * (1 + t) := Int.mul_nonneg hl.1 (by omega)
        omega
    refine ⟨key.1, ?_⟩
    have e2 : s - a = (e - (a + 1)) + ((s - (e + 1)) + 2) := by omega
    rw [e2, Int.pow_add, Int.pow_add]
    have h3 := sq (by omega) key.2
    have h4 := mul (mul (by omega) (by omega) (Int.le_refl (stp x b + 1)) (Int.le_refl (stp x b + 1)) |> fun _ => Int.mul_nonneg (by omega) (by omega)) (Int.mul_nonneg (by omega : (0 : Int) ≤ stp x r + 1) (by omega)) ih1.2 ih2.2
    generalize stp x b + 1 = t at *
    generalize stp x r + 1 = u at *
    have e3 : 6 * (t * u) * (6 * (t * u)) = 36 * ((t * t) * (u * u)) := by
      rw [mmmc, mmmc t u t u]; rfl
    rw [e3] at h3
    have e4 : (6 : Int) ^ (e - (a + 1)) * (6 ^ (s - (e + 1)) * 6 ^ 2) = 36 * (6 ^ (e - (a + 1)) * 6 ^ (s - (e + 1))) := by
      rw [← Int.mul_assoc, Int.mul_comm]; rfl
    rw [e4]
    omega
  | @two a c e s b o r h hn hb ho he hE hr ih1 ih2 ih3 =>
    have hle1 := hb.le
    have hle2 := ho.le
    have hle3 := hr.le
    have key : 0 ≤ stp x (.cons a b o r) ∧ stp x (.cons a b o r) + 1 ≤ 4 * ((stp x b + 1) * ((stp x o + 1) * (stp x r + 1))) := by
      have q1 : (stp x o + 1) * 1 ≤ (stp x o + 1) * (stp x r + 1) := Int.mul_le_mul_of_nonneg_left (by omega) (by omega)
      have q2 : 1 * (stp x r + 1) ≤ (stp x o + 1) * (stp x r + 1) := Int.mul_le_mul_of_nonneg_right (by omega) (by omega)
      generalize hz : (stp x o + 1) * (stp x r + 1) = z at *
      have q3 : (stp x b + 1) * 1 ≤ (stp x b + 1) * z := Int.mul_le_mul_of_nonneg_left (by omega) (by omega)
      have q4 : 1 * z ≤ (stp x b + 1) * z := Int.mul_le_mul_of_nonneg_right (by omega) (by omega)
      simp only [stp]
      generalize (stp x b + 1) * z = w at *
      rcases hn with hn | hn
      · rw [if_pos hn.1]; omega
      · rw [if_neg (by omega), if_neg (by omega), if_pos hn.1]; omega
    refine ⟨key.1, ?_⟩
    have e2 : s - a = (c - (a + 1)) + ((e - (c + 1)) + ((s - (e + 1)) + 3)) := by omega
    rw [e2, Int.pow_add, Int.pow_add, Int.pow_add]
    have h3 := sq (by omega) key.2
    have h5 := mul (Int.mul_nonneg (by omega : (0 : Int) ≤ stp x o + 1) (by omega)) (Int.mul_nonneg (by omega : (0 : Int) ≤ stp x r + 1) (by omega)) ih2.2 ih3.2
    have h4 := mul (Int.mul_nonneg (by omega : (0 : Int) ≤ stp x b + 1) (by omega)) (Int.mul_nonneg (Int.mul_nonneg (by omega : (0 : Int) ≤ stp x o + 1) (by omega)) (Int.mul_nonneg (by omega : (0 : Int) ≤ stp x r + 1) (by omega))) ih1.2 h5
    generalize stp x b + 1 = t at *
    generalize stp x o + 1 = v at *
    generalize stp x r + 1 = u at *
    have e3 : 4 * (t * (v * u)) * (4 * (t * (v * u))) = 16 * ((t * t) * ((v * v) * (u * u))) := by
      rw [mmmc, mmmc t (v * u) t (v * u), mmmc v u v u]; rfl
    rw [e3] at h3
    generalize (6 : Int) ^ (c - (a + 1)) = A at *
    generalize (6 : Int) ^ (e - (c + 1)) = D at *
    generalize (6 : Int) ^ (s - (e + 1)) = F at *
    have e4 : A * (D * (F * 6 ^ 3)) = 216 * (A * (D * F)) := by
      rw [← Int.mul_assoc D, ← Int.mul_assoc, Int.mul_comm]; rfl
    rw [e4]
    have : 0 ≤ t * t * (v * v * (u * u)) := Int.mul_nonneg (by rcases Int.le_total 0 t with h | h; exact Int.mul_nonneg h h; exact Int.mul_nonneg_of_nonpos_of_nonpos h h) (Int.mul_nonneg (by rcases Int.le_total 0 v with h | h; exact Int.mul_nonneg h h; exact Int.mul_nonneg_of_nonpos_of_nonpos h h) (by rcases Int.le_total 0 u with h | h; exact Int.mul_nonneg h h; exact Int.mul_nonneg_of_nonpos_of_nonpos h h))
    omega
theorem stp_bd {x : List St} (hx : loopOk x) (hl : x.length ≤ 40) {a s : Nat} {r : Ns} (h : Bk x a s r) (ha : a ≤ x.length) : 0 ≤ stp x r ∧ stp x r ≤ 4000000000000000 := by
  have h1 := stp_step hx h
  have h2 := h.lt ha
  refine ⟨h1.1, ?_⟩
  have h3 : (6 : Int) ^ (s - a) ≤ 6 ^ 40 := by
    have := Nat.pow_le_pow_right (n := 6) (by decide) (show s - a ≤ 40 by omega)
    exact_mod_cast this
  have h4 := Int.le_trans h1.2 h3
  by_cases h : 4000000000000000 < stp x r
  · exfalso
    have h5 : (4000000000000001 : Int) * 4000000000000001 ≤ (stp x r + 1) * (stp x r + 1) := Int.mul_le_mul (by omega) (by omega) (by decide) (by omega)
    have h6 := Int.le_trans h5 h4
    revert h6; decide
  · omega
/-- The nodes of a whole body. -/
def nodesX (x : List St) : Option Ns := match B x 0 with
  | some (s, r) => if s = x.length then some r else none
  | none => none
theorem nodesX_bk {x : List St} {r : Ns} (h : nodesX x = some r) : Bk x 0 x.length r := by
  unfold nodesX at h
  split at h
  · rename_i s r' hB
    split at h
    · rename_i hs
      simp only [Option.some.injEq] at h
      subst h; subst hs
      exact B_bk _ 0 _ _ (Nat.le_refl _) (by omega) hB
    · cases h
  · cases h
theorem nodesX_stop {x : List St} : (nodesX x = none ↔ stopI (B x 0) ≠ x.length) := by
  unfold nodesX
  cases hB : B x 0 with
  | none => exact ⟨fun _ h => by simp only [stopI] at h; omega, fun _ => rfl⟩
  | some q =>
    obtain ⟨s, r⟩ := q
    dsimp only
    by_cases h : s = x.length
    · rw [if_pos h]
      exact ⟨fun h' => by simp at h', fun h' => absurd (show stopI (some (s, r)) = x.length by simp only [stopI]; omega) h'⟩
    · rw [if_neg h]
      exact ⟨fun _ h' => h (by simp only [stopI] at h'; omega), fun _ => rfl⟩
/-- All nodes stand in the body. -/
def okN (x : List St) : Ns → Prop
  | .nil => True
  | .cons a b o r => a < x.length ∧ okN x b ∧ okN x o ∧ okN x r
theorem Bk.ok {x : List St} {a s : Nat} {r : Ns} (h : Bk x a s r) : okN x r := by
  induction h with
  | nil => trivial
  | leaf h _ _ _ ih => exact ⟨h, trivial, trivial, ih⟩
  | one h _ _ _ _ _ ih1 ih2 => exact ⟨h, ih1, trivial, ih2⟩
  | two h _ _ _ _ _ _ ih1 ih2 ih3 => exact ⟨h, ih1, ih2, ih3⟩
def Ns.sz : Ns → Nat
  | .nil => 0
  | .cons _ b o r => 1 + b.sz + o.sz + r.sz
theorem stp_nn {x : List St} (hx : loopOk x) : ∀ {r : Ns}, okN x r → 0 ≤ stp x r
  | .nil, h => by simp [stp]
  | .cons a b o r, h => by
    obtain ⟨h1, h2, h3, h4⟩ := h
    have hb := stp_nn hx h2
    have ho := stp_nn hx h3
    have hr := stp_nn hx h4
    simp only [stp]
    split
    · omega
    · split
      · rename_i h5
        have hl := hx a h1 h5
        have := Int.mul_nonneg hl.1 (show 0 ≤ 1 + stp x b by omega)
        omega
      · split <;> omega
theorem cap_loop {n s t u : Int} (h0 : 0 ≤ n) (h4 : n ≤ 4) (hs : 0 ≤ s) : min 4000 (t + (1 + n * (1 + min 4000 s)) + u) = min 4000 (t + (1 + n * (1 + s)) + u) ∨ (4000 < t + (1 + n * (1 + min 4000 s)) ∧ 4000 < t + (1 + n * (1 + s))) ∨ t < 0 := by
  have : n = 0 ∨ n = 1 ∨ n = 2 ∨ n = 3 ∨ n = 4 := by omega
  rcases this with h | h | h | h | h <;> subst h <;> omega
open Classical in
/-- What is wrong with a program. -/
noncomputable def codeN (p : Pr) : Int :=
  if ¬ (1 ≤ p.w ∧ p.w ≤ 8) then 1
  else if ¬ inputsOk p then 2
  else if ¬ roomOk p then 3
  else if ¬ ∀ s ∈ p.body, stOk p s then 4
  else match nodesX p.body with
    | none => 5
    | some r => if 400 < stp p.body r then 6 else 0
/-- A right program. -/
structure PrOk (p : Pr) : Prop where
  w0 : 1 ≤ p.w
  w8 : p.w ≤ 8
  i : inputsOk p
  r : roomOk p
  s : ∀ s ∈ p.body, stOk p s
  n : ∃ r, nodesX p.body = some r ∧ stp p.body r ≤ 400
theorem codeN_ok (p : Pr) : codeN p = 0 ↔ PrOk p := by
  unfold codeN
  constructor
  · intro h
    split at h
    · omega
    rename_i h1
    split at h
    · omega
    rename_i h2
    split at h
    · omega
    rename_i h3
    split at h
    · omega
    rename_i h4
    split at h
    · omega
    rename_i r hr
    split at h
    · omega
    simp only [Classical.not_not] at h1 h2 h3 h4
    exact ⟨h1.1, h1.2, h2, h3, h4, r, hr, by omega⟩
  · rintro ⟨h1, h2, h3, h4, h5, r, h6, h7⟩
    rw [if_neg (by simp [h1, h2]), if_neg (by simp [h3]), if_neg (by simp [h4]), if_neg (by simpa using h5), h6]
    simp only
    rw [if_neg (by omega)]
theorem loop_ok {p : Pr} (h : ∀ s ∈ p.body, stOk p s) : loopOk p.body := by
  intro a ha h5
  have hm : p.body.getD a zst ∈ p.body := by simp [List.getD_eq_getElem?_getD, ha]
  have := (stOk5 (p := p) (s := p.body.getD a zst) h5).1 (h _ hm)
  exact ⟨this.2.2.1, this.2.2.2⟩
end Go.Eng.C
/- Reckoning, in plain Lean: what the operations give, what an expression comes to. No program in sight. -/
namespace Go.Eng.C
open Go Go.RowKit
set_option linter.unusedVariables false
set_option linter.unusedSimpArgs false
def andI (a b : Int) : Int := IntKind.i64.wrap (BitVec.ofInt IntKind.i64.bits a &&& BitVec.ofInt IntKind.i64.bits b).toNat
def orI (a b : Int) : Int := IntKind.i64.wrap (BitVec.ofInt IntKind.i64.bits a ||| BitVec.ofInt IntKind.i64.bits b).toNat
def xorI (a b : Int) : Int := IntKind.i64.wrap (BitVec.ofInt IntKind.i64.bits a ^^^ BitVec.ofInt IntKind.i64.bits b).toNat
/-- What one value becomes. -/
def tn (w op a : Int) : Int := if op = 3 then andI (xorI (-1) a) (sizeW w - 1) else andI (-a) (sizeW w - 1)
/-- What two values give. -/
def jn (w op a b : Int) : Int :=
  if op = 5 then andI (a + b) (sizeW w - 1)
  else if op = 6 then andI (a - b) (sizeW w - 1)
  else if op = 7 then andI (a * b) (sizeW w - 1)
  else if op = 8 then a.tdiv b
  else if op = 9 then a.tmod b
  else if op = 10 then andI a b
  else if op = 11 then orI a b
  else if op = 12 then xorI a b
  else if op = 13 then if w ≤ b then 0 else andI (a * 2 ^ b.toNat) (sizeW w - 1)
  else if op = 14 then if w ≤ b then 0 else a.fdiv (2 ^ b.toNat)
  else if op = 15 then if a = b then 1 else 0
  else if a < b then 1 else 0
theorem fin_of {n : Nat} {a : Int} (h0 : 0 ≤ a) (h1 : a < n) : ∃ k : Fin n, a = k.val := ⟨⟨a.toNat, by omega⟩, by dsimp only; omega⟩
theorem tn_bd {w op a : Int} (hw : w = 2 ∨ w = 3) (h0 : 0 ≤ a) (h1 : a < sizeW w) : 0 ≤ tn w op a ∧ tn w op a < sizeW w := by
  have h2 : ∀ k : Fin 4, (0 ≤ andI (xorI (-1) k.val) 3 ∧ andI (xorI (-1) k.val) 3 < 4) ∧ 0 ≤ andI (-(k.val : Int)) 3 ∧ andI (-(k.val : Int)) 3 < 4 := by decide +kernel
  have h3 : ∀ k : Fin 8, (0 ≤ andI (xorI (-1) k.val) 7 ∧ andI (xorI (-1) k.val) 7 < 8) ∧ 0 ≤ andI (-(k.val : Int)) 7 ∧ andI (-(k.val : Int)) 7 < 8 := by decide +kernel
  rcases hw with rfl | rfl
  · obtain ⟨k, rfl⟩ := fin_of (n := 4) h0 h1
    unfold tn; split
    · exact (h2 k).1
    · exact (h2 k).2
  · obtain ⟨k, rfl⟩ := fin_of (n := 8) h0 h1
    unfold tn; split
    · exact (h3 k).1
    · exact (h3 k).2
theorem jn_bd {w op a b : Int} (hw : w = 2 ∨ w = 3) (g0 : 5 ≤ op) (g1 : op ≤ 16) (h0 : 0 ≤ a) (h1 : a < sizeW w) (k0 : 0 ≤ b) (k1 : b < sizeW w) : 0 ≤ jn w op a b ∧ jn w op a b < sizeW w := by
  have h2 : ∀ o : Fin 12, ∀ x y : Fin 4, 0 ≤ jn 2 (o.val + 5) x.val y.val ∧ jn 2 (o.val + 5) x.val y.val < 4 := by decide +kernel
  have h3 : ∀ o : Fin 12, ∀ x y : Fin 8, 0 ≤ jn 3 (o.val + 5) x.val y.val ∧ jn 3 (o.val + 5) x.val y.val < 8 := by decide +kernel
  obtain ⟨o, ho⟩ := fin_of (n := 12) (a := op - 5) (by omega) (by omega)
  have : op = o.val + 5 := by omega
  subst this
  rcases hw with rfl | rfl
  · obtain ⟨x, rfl⟩ := fin_of (n := 4) h0 h1
    obtain ⟨y, rfl⟩ := fin_of (n := 4) k0 k1
    exact h2 o x y
  · obtain ⟨x, rfl⟩ := fin_of (n := 8) h0 h1
    obtain ⟨y, rfl⟩ := fin_of (n := 8) k0 k1
    exact h3 o x y
/-- Values and cells. -/
structure Vs where
  vars : List Int
  cells : List (List Int)
/-- A Term's value over what it takes, and what goes wrong: 0, 1 or 2. -/
def val1 (w : Int) (v : Vs) (t : Tm) (x : List Int) : Int × Int :=
  if t.op = 0 then (t.n, 0)
  else if t.op = 1 then (v.vars.getD t.n.toNat 0, 0)
  else if t.op = 2 then if x.getD 0 0 < ((v.cells.getD t.n.toNat []).length : Int) then ((v.cells.getD t.n.toNat []).getD (x.getD 0 0).toNat 0, 0) else (0, 2)
  else if t.op = 3 ∨ t.op = 4 then (tn w t.op (x.getD 0 0), 0)
  else if t.op = 17 then (if x.getD 0 0 ≠ 0 then x.getD 1 0 else x.getD 2 0, 0)
  else if x.getD 1 0 = 0 ∧ (t.op = 8 ∨ t.op = 9) then (0, 1)
  else (jn w t.op (x.getD 0 0) (x.getD 1 0), 0)
/-- What an expression comes to over a pile (the lowest first). -/
def rk (w : Int) (v : Vs) : List Tm → List Int → Int × Int
  | [], s => (s.getD 0 0, 0)
  | t :: l, s =>
    let x := s.drop (s.length - (tks t.op).toNat)
    let r := val1 w v t x
    if r.2 ≠ 0 then (0, r.2) else rk w v l (s.take (s.length - (tks t.op).toNat) ++ [r.1])
end Go.Eng.C
/- The laws of sums over reckoning, in plain Lean. No program in sight. -/
namespace Go.Eng.C
open Go Go.RowKit
set_option linter.unusedVariables false
set_option linter.unusedSimpArgs false
/-- An expression that comes to a value wherever it stands. -/
def Evals (w : Int) (v : Vs) (e : List Tm) (V : Int) : Prop := ∀ l s, rk w v (e ++ l) s = rk w v l (s ++ [V])
/-- An expression that leaves one more, wherever it stands. -/
def Lifts (e : List Tm) : Prop := ∀ l (h : Int), 0 ≤ h → hgt (e ++ l) h = hgt l (h + 1)
theorem Evals.rk {w : Int} {v : Vs} {e : List Tm} {V : Int} (h : Evals w v e V) : rk w v e [] = (V, 0) := by
  have := h [] []
  rw [List.append_nil] at this
  rw [this]; rfl
theorem Evals.var (w : Int) (v : Vs) (n : Int) : Evals w v [⟨1, n⟩] (v.vars.getD n.toNat 0) := by
  intro l s
  have h1 : (tks (1 : Int)).toNat = 0 := by decide
  simp only [List.cons_append, List.nil_append, Go.Eng.C.rk, h1, Nat.sub_zero, List.take_length]
  simp [val1]
theorem app2 (s : List Int) (A B : Int) : (s ++ [A] ++ [B]).length - 2 = s.length := by simp
theorem Evals.two {w : Int} {v : Vs} {a b : List Tm} {A B : Int} (op : Int) (ha : Evals w v a A) (hb : Evals w v b B) (g0 : 5 ≤ op) (g1 : op ≤ 16) (hz : op = 8 ∨ op = 9 → B ≠ 0) : Evals w v (a ++ b ++ [⟨op, 0⟩]) (jn w op A B) := by
  intro l s
  rw [List.append_assoc, List.append_assoc, ha, hb]
  have h1 : (tks op).toNat = 2 := by unfold tks; rw [if_neg (by omega), if_neg (by omega), if_pos ⟨g0, g1⟩]; rfl
  have hd : (s ++ [A] ++ [B]).drop s.length = [A, B] := by simp
  have ht : (s ++ [A] ++ [B]).take s.length = s := by simp
  simp only [List.cons_append, List.nil_append, Go.Eng.C.rk, h1, app2, hd, ht]
  have hv : val1 w v ⟨op, 0⟩ [A, B] = (jn w op A B, 0) := by
    simp only [val1]
    rw [if_neg (by omega), if_neg (by omega), if_neg (by omega), if_neg (by omega), if_neg (by omega), if_neg (fun h => hz h.2 h.1)]
    rfl
  rw [hv]; simp
theorem Evals.div0 {w : Int} {v : Vs} {a b : List Tm} {A : Int} (op : Int) (ha : Evals w v a A) (hb : Evals w v b 0) (ho : op = 8 ∨ op = 9) (l : List Tm) (s : List Int) : Go.Eng.C.rk w v (a ++ b ++ [⟨op, 0⟩] ++ l) s = (0, 1) := by
  rw [List.append_assoc, List.append_assoc, ha, hb]
  have h1 : (tks op).toNat = 2 := by rcases ho with rfl | rfl <;> decide
  have hd : (s ++ [A] ++ [(0 : Int)]).drop s.length = [A, 0] := by simp
  simp only [List.cons_append, List.nil_append, Go.Eng.C.rk, h1, app2, hd]
  have hv : val1 w v ⟨op, 0⟩ [A, 0] = (0, 1) := by
    simp only [val1]
    rw [if_neg (by omega), if_neg (by omega), if_neg (by omega), if_neg (by omega), if_neg (by omega), if_pos ⟨rfl, ho⟩]
  rw [hv]; simp
theorem Evals.one {w : Int} {v : Vs} {a : List Tm} {A : Int} (op : Int) (ha : Evals w v a A) (ho : op = 3 ∨ op = 4) : Evals w v (a ++ [⟨op, 0⟩]) (tn w op A) := by
  intro l s
  rw [List.append_assoc, ha]
  have h1 : (tks op).toNat = 1 := by rcases ho with rfl | rfl <;> decide
  have h2 : (s ++ [A]).length - 1 = s.length := by simp
  have hd : (s ++ [A]).drop s.length = [A] := by simp
  have ht : (s ++ [A]).take s.length = s := by simp
  simp only [List.cons_append, List.nil_append, Go.Eng.C.rk, h1, h2, hd, ht]
  have hv : val1 w v ⟨op, 0⟩ [A] = (tn w op A, 0) := by
    simp only [val1]
    rw [if_neg (by omega), if_neg (by omega), if_neg (by omega), if_pos ho]
    rfl
  rw [hv]; simp
theorem Lifts.var (n : Int) (h0 : 0 ≤ n) (h1 : n ≤ 255) : Lifts [⟨1, n⟩] := by
  intro l h hh
  have e1 : tks (1 : Int) = 0 := by decide
  simp only [List.cons_append, List.nil_append, hgt]
  rw [if_pos ⟨⟨by simp [e1], h0, h1, by simp⟩, by simp [e1]; omega⟩]
  simp [e1]
theorem Lifts.num (n : Int) (h0 : 0 ≤ n) (h1 : n ≤ 255) : Lifts [⟨0, n⟩] := by
  intro l h hh
  have e1 : tks (0 : Int) = 0 := by decide
  simp only [List.cons_append, List.nil_append, hgt]
  rw [if_pos ⟨⟨by simp [e1], h0, h1, by simp⟩, by simp [e1]; omega⟩]
  simp [e1]
theorem Lifts.cell {a : List Tm} (n : Int) (ha : Lifts a) (h0 : 0 ≤ n) (h1 : n ≤ 255) : Lifts (a ++ [⟨2, n⟩]) := by
  intro l h hh
  have e1 : tks (2 : Int) = 1 := by decide
  rw [List.append_assoc, ha _ _ hh]
  simp only [List.cons_append, List.nil_append, hgt]
  rw [if_pos ⟨⟨by simp [e1], h0, h1, by simp⟩, by simp [e1]; omega⟩]
  simp only [e1]; congr 1; omega
theorem Lifts.two {a b : List Tm} (op : Int) (ha : Lifts a) (hb : Lifts b) (g0 : 5 ≤ op) (g1 : op ≤ 16) : Lifts (a ++ b ++ [⟨op, 0⟩]) := by
  intro l h hh
  have e1 : tks op = 2 := by unfold tks; rw [if_neg (by omega), if_neg (by omega), if_pos ⟨g0, g1⟩]
  rw [List.append_assoc, List.append_assoc, ha _ _ hh, hb _ _ (by omega)]
  simp only [List.cons_append, List.nil_append, hgt]
  rw [if_pos ⟨⟨by simp [e1], by simp, by simp, by simp⟩, by simp [e1]; omega⟩]
  simp only [e1]; congr 1; omega
theorem Lifts.one {a : List Tm} (op : Int) (ha : Lifts a) (ho : op = 3 ∨ op = 4) : Lifts (a ++ [⟨op, 0⟩]) := by
  intro l h hh
  have e1 : tks op = 1 := by rcases ho with rfl | rfl <;> decide
  rw [List.append_assoc, ha _ _ hh]
  simp only [List.cons_append, List.nil_append, hgt]
  rw [if_pos ⟨⟨by simp [e1], by simp, by simp, by simp⟩, by simp [e1]; omega⟩]
  simp only [e1]; congr 1; omega
theorem Lifts.ok {e : List Tm} (h : Lifts e) (hl : e.length ≤ 3000) : expOk e = true := by
  have := h [] 0 (by omega)
  rw [List.append_nil] at this
  simp only [expOk, Bool.and_eq_true, decide_eq_true_eq]
  exact ⟨hl, by rw [this]; rfl⟩
theorem sums {w x y : Int} (hw : w = 2 ∨ w = 3) (h0 : 0 ≤ x) (h1 : x < sizeW w) (k0 : 0 ≤ y) (k1 : y < sizeW w) :
    jn w 6 (jn w 5 x y) y = x ∧ tn w 3 (tn w 3 x) = x ∧ jn w 12 (jn w 12 x y) y = x ∧ jn w 5 x (tn w 4 x) = 0 ∧ (y ≠ 0 → jn w 5 (jn w 7 (jn w 8 x y) y) (jn w 9 x y) = x) ∧ jn w 5 (jn w 10 x y) (jn w 11 x y) = jn w 5 x y := by
  have h2 : ∀ x y : Fin 4, jn 2 6 (jn 2 5 x.val y.val) y.val = x.val ∧ tn 2 3 (tn 2 3 x.val) = x.val ∧ jn 2 12 (jn 2 12 x.val y.val) y.val = x.val ∧ jn 2 5 x.val (tn 2 4 x.val) = 0 ∧ ((y.val : Int) ≠ 0 → jn 2 5 (jn 2 7 (jn 2 8 x.val y.val) y.val) (jn 2 9 x.val y.val) = x.val) ∧ jn 2 5 (jn 2 10 x.val y.val) (jn 2 11 x.val y.val) = jn 2 5 x.val y.val := by decide +kernel
  have h3 : ∀ x y : Fin 8, jn 3 6 (jn 3 5 x.val y.val) y.val = x.val ∧ tn 3 3 (tn 3 3 x.val) = x.val ∧ jn 3 12 (jn 3 12 x.val y.val) y.val = x.val ∧ jn 3 5 x.val (tn 3 4 x.val) = 0 ∧ ((y.val : Int) ≠ 0 → jn 3 5 (jn 3 7 (jn 3 8 x.val y.val) y.val) (jn 3 9 x.val y.val) = x.val) ∧ jn 3 5 (jn 3 10 x.val y.val) (jn 3 11 x.val y.val) = jn 3 5 x.val y.val := by decide +kernel
  rcases hw with rfl | rfl
  · obtain ⟨x, rfl⟩ := fin_of (n := 4) h0 h1
    obtain ⟨y, rfl⟩ := fin_of (n := 4) k0 k1
    exact h2 x y
  · obtain ⟨x, rfl⟩ := fin_of (n := 8) h0 h1
    obtain ⟨y, rfl⟩ := fin_of (n := 8) k0 k1
    exact h3 x y
end Go.Eng.C
/- Reckoning for all widths, in plain Lean: what the operations of bits come to. No program in sight. -/
namespace Go.Eng.C
open Go Go.RowKit
set_option linter.unusedVariables false
set_option linter.unusedSimpArgs false
theorem wrapI {n : Int} (h0 : -9223372036854775808 ≤ n) (h1 : n ≤ 9223372036854775807) : IntKind.i64.wrap n = n := by
  have : IntKind.i64.wrap n = wrap64 n := by rw [Go.IntWalk.i64_left]
  rw [this]; unfold wrap64; omega
theorem ofI (a : Nat) (h : a < 9223372036854775808) : (BitVec.ofInt IntKind.i64.bits (a : Int)).toNat = a := by
  have : IntKind.i64.bits = 64 := rfl
  rw [this, BitVec.toNat_ofInt]
  omega
theorem andI_nat (a b : Nat) (ha : a < 9223372036854775808) (hb : b < 9223372036854775808) : andI a b = ((a &&& b : Nat) : Int) := by
  unfold andI
  rw [BitVec.toNat_and, ofI a ha, ofI b hb]
  have : a &&& b ≤ a := Nat.and_le_left
  exact wrapI (by omega) (by omega)
theorem orI_nat (a b : Nat) (ha : a < 4611686018427387904) (hb : b < 4611686018427387904) : orI a b = ((a ||| b : Nat) : Int) := by
  unfold orI
  rw [BitVec.toNat_or, ofI a (by omega), ofI b (by omega)]
  have : a ||| b < 2 ^ 62 := Nat.or_lt_two_pow (by omega) (by omega)
  exact wrapI (by omega) (by omega)
theorem xorI_nat (a b : Nat) (ha : a < 4611686018427387904) (hb : b < 4611686018427387904) : xorI a b = ((a ^^^ b : Nat) : Int) := by
  unfold xorI
  rw [BitVec.toNat_xor, ofI a (by omega), ofI b (by omega)]
  have : a ^^^ b < 2 ^ 62 := Nat.xor_lt_two_pow (by omega) (by omega)
  exact wrapI (by omega) (by omega)
theorem sizeW_nat {w : Int} : sizeW w = ((2 ^ w.toNat : Nat) : Int) := by unfold sizeW; simp
theorem pow8 {k : Nat} (h : k ≤ 8) : 0 < 2 ^ k ∧ 2 ^ k ≤ 256 := ⟨Nat.two_pow_pos k, Nat.pow_le_pow_right (n := 2) (by omega) h⟩
theorem sizeW_bd {w : Int} (h8 : w ≤ 8) : 0 < sizeW w ∧ sizeW w ≤ 256 := by
  have := pow8 (k := w.toNat) (by omega)
  rw [sizeW_nat]; omega
/-- What a mask leaves is the rest. -/
theorem andI_mask (x : Int) (k : Nat) (hk : k ≤ 8) (h0 : -9223372036854775808 ≤ x) (h1 : x ≤ 9223372036854775807) : andI x ((2 ^ k : Nat) - 1 : Int) = x % (2 ^ k : Nat) := by
  have hp := pow8 hk
  have e1 : ((2 ^ k : Nat) - 1 : Int) = ((2 ^ k - 1 : Nat) : Int) := by omega
  unfold andI
  rw [e1, BitVec.toNat_and, ofI _ (by omega), Nat.and_two_pow_sub_one_eq_mod]
  have e2 : (BitVec.ofInt IntKind.i64.bits x).toNat = (x % 18446744073709551616).toNat := by
    have : IntKind.i64.bits = 64 := rfl
    rw [this, BitVec.toNat_ofInt]; rfl
  rw [e2]
  have hd : ((2 ^ k : Nat) : Int) ∣ 18446744073709551616 := by
    have h : (2 : Nat) ^ k ∣ 2 ^ 64 := Nat.pow_dvd_pow 2 (by omega)
    have := Int.natCast_dvd_natCast.2 h
    simpa using this
  have e3 : (((x % 18446744073709551616).toNat % 2 ^ k : Nat) : Int) = x % (2 ^ k : Nat) := by
    rw [Int.natCast_emod, Int.toNat_of_nonneg (Int.emod_nonneg _ (by decide)), Int.emod_emod_of_dvd _ hd]
  rw [e3]
  have h2 := Int.emod_nonneg x (show ((2 ^ k : Nat) : Int) ≠ 0 by omega)
  have h3 := Int.emod_lt_of_pos x (show (0 : Int) < (2 ^ k : Nat) by omega)
  exact wrapI (by omega) (by omega)
theorem andI_sz {w x : Int} (h8 : w ≤ 8) (h0 : -9223372036854775808 ≤ x) (h1 : x ≤ 9223372036854775807) : andI x (sizeW w - 1) = x % sizeW w := by
  rw [sizeW_nat]; exact andI_mask x w.toNat (by omega) h0 h1
theorem xorI_m1 (a : Nat) (h : a < 9223372036854775808) : xorI (-1) a = -1 - (a : Int) := by
  unfold xorI
  have e0 : IntKind.i64.bits = 64 := rfl
  have e1 : BitVec.ofInt IntKind.i64.bits (-1) = BitVec.allOnes 64 := by show BitVec.ofInt 64 (-1) = BitVec.allOnes 64; decide
  have e2 : (BitVec.allOnes 64 ^^^ BitVec.ofInt 64 (a : Int)).toNat = 18446744073709551615 - a := by
    rw [BitVec.allOnes_xor, BitVec.toNat_not]
    have := ofI a h
    rw [e0] at this
    rw [this]
  rw [e1]
  show IntKind.i64.wrap ((BitVec.allOnes 64 ^^^ BitVec.ofInt 64 (a : Int)).toNat : Int) = -1 - (a : Int)
  rw [e2]
  have : IntKind.i64.wrap ((18446744073709551615 - a : Nat) : Int) = wrap64 ((18446744073709551615 - a : Nat) : Int) := by rw [Go.IntWalk.i64_left]
  rw [this]; unfold wrap64; omega
theorem tn3 {w a : Int} (h8 : w ≤ 8) (h0 : 0 ≤ a) (h1 : a < sizeW w) : tn w 3 a = sizeW w - 1 - a := by
  have hs := sizeW_bd h8
  unfold tn
  rw [if_pos rfl]
  obtain ⟨n, rfl⟩ : ∃ n : Nat, a = n := ⟨a.toNat, by omega⟩
  rw [xorI_m1 n (by omega), andI_sz h8 (by omega) (by omega)]
  generalize sizeW w = S at *
  rw [show -1 - (n : Int) = (S - 1 - n) + S * (-1) by omega, Int.add_mul_emod_self_left, Int.emod_eq_of_lt (by omega) (by omega)]
theorem tn4 {w a : Int} (h8 : w ≤ 8) (h0 : 0 ≤ a) (h1 : a < sizeW w) : tn w 4 a = (sizeW w - a) % sizeW w := by
  have hs := sizeW_bd h8
  unfold tn
  rw [if_neg (by decide), andI_sz h8 (by omega) (by omega)]
  generalize sizeW w = S at *
  rw [show S - a = -a + S * 1 by omega, Int.add_mul_emod_self_left]
theorem tn_bd8 {w op a : Int} (h8 : w ≤ 8) (hop : op = 3 ∨ op = 4) (h0 : 0 ≤ a) (h1 : a < sizeW w) : 0 ≤ tn w op a ∧ tn w op a < sizeW w := by
  have hs := sizeW_bd h8
  rcases hop with rfl | rfl
  · rw [tn3 h8 h0 h1]; omega
  · rw [tn4 h8 h0 h1]
    exact ⟨Int.emod_nonneg _ (by omega), Int.emod_lt_of_pos _ (by omega)⟩
theorem mul_bd {a b S : Int} (h0 : 0 ≤ a) (h1 : a < S) (k0 : 0 ≤ b) (k1 : b < S) (hS : S ≤ 256) : 0 ≤ a * b ∧ a * b ≤ 65025 :=
  ⟨Int.mul_nonneg h0 k0, Int.mul_le_mul (show a ≤ 255 by omega) (show b ≤ 255 by omega) k0 (by decide)⟩
theorem jn5 {w a b : Int} (h8 : w ≤ 8) (h0 : 0 ≤ a) (h1 : a < sizeW w) (k0 : 0 ≤ b) (k1 : b < sizeW w) : jn w 5 a b = (a + b) % sizeW w := by
  have hs := sizeW_bd h8
  unfold jn; rw [if_pos rfl, andI_sz h8 (by omega) (by omega)]
theorem jn6 {w a b : Int} (h8 : w ≤ 8) (h0 : 0 ≤ a) (h1 : a < sizeW w) (k0 : 0 ≤ b) (k1 : b < sizeW w) : jn w 6 a b = (a - b + sizeW w) % sizeW w := by
  have hs := sizeW_bd h8
  unfold jn; rw [if_neg (by decide), if_pos rfl, andI_sz h8 (by omega) (by omega)]
  generalize sizeW w = S at *
  rw [show a - b + S = a - b + S * 1 by omega, Int.add_mul_emod_self_left]
theorem jn7 {w a b : Int} (h8 : w ≤ 8) (h0 : 0 ≤ a) (h1 : a < sizeW w) (k0 : 0 ≤ b) (k1 : b < sizeW w) : jn w 7 a b = (a * b) % sizeW w := by
  have hs := sizeW_bd h8
  have hm := mul_bd h0 h1 k0 k1 hs.2
  unfold jn; rw [if_neg (by decide), if_neg (by decide), if_pos rfl, andI_sz h8 (by omega) (by omega)]
/-! Bits. -/
def bitO (how : Nat) (x y : Nat) : Nat := if how = 0 then x &&& y else if how = 1 then x ||| y else x ^^^ y
theorem testBit_bitO (how x y j : Nat) : (bitO how x y).testBit j = if how = 0 then x.testBit j && y.testBit j else if how = 1 then x.testBit j || y.testBit j else (x.testBit j ^^ y.testBit j) := by
  unfold bitO
  split
  · exact Nat.testBit_and ..
  · split
    · exact Nat.testBit_or ..
    · exact Nat.testBit_xor ..
theorem bitO_lt {how x y k : Nat} (hx : x < 2 ^ k) (hy : y < 2 ^ k) : bitO how x y < 2 ^ k := by
  unfold bitO
  split
  · exact Nat.and_lt_two_pow _ hy
  · split
    · exact Nat.or_lt_two_pow hx hy
    · exact Nat.xor_lt_two_pow hx hy
theorem bitO_join (how k a b c d : Nat) (hb : b < 2 ^ k) (hd : d < 2 ^ k) : bitO how (2 ^ k * a + b) (2 ^ k * c + d) = 2 ^ k * bitO how a c + bitO how b d := by
  apply Nat.eq_of_testBit_eq
  intro j
  have h := bitO_lt (how := how) hb hd
  rw [testBit_bitO, Nat.testBit_two_pow_mul_add _ hb, Nat.testBit_two_pow_mul_add _ hd, Nat.testBit_two_pow_mul_add _ h]
  rw [testBit_bitO, testBit_bitO]
  by_cases hj : j < k
  · simp only [hj, if_true]
  · simp only [hj, if_false]
theorem mod_next (x k : Nat) : x % 2 ^ (k + 1) = 2 ^ k * (x / 2 ^ k % 2) + x % 2 ^ k := by
  rw [Nat.pow_succ, Nat.mod_mul]; omega
theorem bitO_next (how a b k : Nat) : bitO how (a % 2 ^ (k + 1)) (b % 2 ^ (k + 1)) = 2 ^ k * bitO how (a / 2 ^ k % 2) (b / 2 ^ k % 2) + bitO how (a % 2 ^ k) (b % 2 ^ k) := by
  rw [mod_next, mod_next, bitO_join how k _ _ _ _ (Nat.mod_lt _ (Nat.two_pow_pos k)) (Nat.mod_lt _ (Nat.two_pow_pos k))]
theorem jn10 {w : Int} (a b : Nat) (ha : a < 4611686018427387904) (hb : b < 4611686018427387904) : jn w 10 a b = (bitO 0 a b : Nat) ∧ jn w 11 a b = (bitO 1 a b : Nat) ∧ jn w 12 a b = (bitO 2 a b : Nat) := by
  refine ⟨?_, ?_, ?_⟩
  · show andI a b = _
    exact andI_nat a b (by omega) (by omega)
  · show orI a b = _
    exact orI_nat a b ha hb
  · show xorI a b = _
    exact xorI_nat a b ha hb
/-! Shifts. -/
theorem jn13 {w a b : Int} (h8 : w ≤ 8) (h0 : 0 ≤ a) (h1 : a < sizeW w) (k0 : 0 ≤ b) : jn w 13 a b = (a * 2 ^ b.toNat) % sizeW w := by
  have hs := sizeW_bd h8
  unfold jn
  simp only [show ¬ (13 : Int) = 5 by decide, show ¬ (13 : Int) = 6 by decide, show ¬ (13 : Int) = 7 by decide, show ¬ (13 : Int) = 8 by decide, show ¬ (13 : Int) = 9 by decide, show ¬ (13 : Int) = 10 by decide, show ¬ (13 : Int) = 11 by decide, show ¬ (13 : Int) = 12 by decide, if_false, if_true]
  split
  · rename_i h
    symm
    apply Int.emod_eq_zero_of_dvd
    apply Int.dvd_mul_of_dvd_right
    unfold sizeW
    have hp2 : (2 : Int) ^ b.toNat = ((2 ^ b.toNat : Nat) : Int) := by simp
    have hp3 : (2 : Int) ^ w.toNat = ((2 ^ w.toNat : Nat) : Int) := by simp
    rw [hp2, hp3]
    exact Int.natCast_dvd_natCast.2 (Nat.pow_dvd_pow 2 (by omega))
  · have hp := pow8 (k := b.toNat) (by omega)
    have hp2 : (2 : Int) ^ b.toNat = ((2 ^ b.toNat : Nat) : Int) := by simp
    have hb0 : 0 ≤ a * 2 ^ b.toNat := Int.mul_nonneg h0 (by omega)
    have hb1 : a * 2 ^ b.toNat ≤ 256 * 256 := Int.mul_le_mul (by omega) (by omega) (by omega) (by decide)
    exact andI_sz h8 (by omega) (by omega)
theorem jn14 {w a b : Int} (h0 : 0 ≤ a) (h1 : a < sizeW w) (k0 : 0 ≤ b) : jn w 14 a b = a / 2 ^ b.toNat := by
  unfold jn
  simp only [show ¬ (14 : Int) = 5 by decide, show ¬ (14 : Int) = 6 by decide, show ¬ (14 : Int) = 7 by decide, show ¬ (14 : Int) = 8 by decide, show ¬ (14 : Int) = 9 by decide, show ¬ (14 : Int) = 10 by decide, show ¬ (14 : Int) = 11 by decide, show ¬ (14 : Int) = 12 by decide, show ¬ (14 : Int) = 13 by decide, if_false, if_true]
  have hpp : (0 : Int) < 2 ^ b.toNat := by
    have := Nat.two_pow_pos b.toNat
    have hp2 : (2 : Int) ^ b.toNat = ((2 ^ b.toNat : Nat) : Int) := by simp
    omega
  split
  · rename_i h
    symm
    refine Int.ediv_eq_zero_of_lt h0 (Int.lt_of_lt_of_le h1 ?_)
    rw [sizeW_nat]
    have h2 : 2 ^ w.toNat ≤ 2 ^ b.toNat := Nat.pow_le_pow_right (by omega) (by omega)
    have hp2 : (2 : Int) ^ b.toNat = ((2 ^ b.toNat : Nat) : Int) := by simp
    omega
  · exact Int.fdiv_eq_ediv_of_nonneg _ (by omega)
theorem jn_bd8 {w op a b : Int} (h8 : w ≤ 8) (hw1 : 1 ≤ w) (g0 : 5 ≤ op) (g1 : op ≤ 16) (h0 : 0 ≤ a) (h1 : a < sizeW w) (k0 : 0 ≤ b) (k1 : b < sizeW w) : 0 ≤ jn w op a b ∧ jn w op a b < sizeW w := by
  have hs := sizeW_bd h8
  have h2 : 2 ≤ sizeW w := by
    rw [sizeW_nat]
    have : 2 ^ 1 ≤ 2 ^ w.toNat := Nat.pow_le_pow_right (by omega) (by omega)
    omega
  have md : ∀ x : Int, 0 ≤ x % sizeW w ∧ x % sizeW w < sizeW w := fun x => ⟨Int.emod_nonneg _ (by omega), Int.emod_lt_of_pos _ (by omega)⟩
  have hc : op = 5 ∨ op = 6 ∨ op = 7 ∨ op = 8 ∨ op = 9 ∨ op = 10 ∨ op = 11 ∨ op = 12 ∨ op = 13 ∨ op = 14 ∨ op = 15 ∨ op = 16 := by omega
  have hbit : ∀ how, ((bitO how a.toNat b.toNat : Nat) : Int) < sizeW w := fun how => by
    have hab : a.toNat < 2 ^ w.toNat ∧ b.toNat < 2 ^ w.toNat := by rw [sizeW_nat] at h1 k1; omega
    have := bitO_lt (how := how) hab.1 hab.2
    rw [sizeW_nat]; omega
  have hj := jn10 (w := w) a.toNat b.toNat (by omega) (by omega)
  rw [Int.toNat_of_nonneg h0, Int.toNat_of_nonneg k0] at hj
  rcases hc with rfl | rfl | rfl | rfl | rfl | rfl | rfl | rfl | rfl | rfl | rfl | rfl
  · rw [jn5 h8 h0 h1 k0 k1]; exact md _
  · rw [jn6 h8 h0 h1 k0 k1]; exact md _
  · rw [jn7 h8 h0 h1 k0 k1]; exact md _
  · show 0 ≤ a.tdiv b ∧ a.tdiv b < sizeW w
    exact ⟨Int.tdiv_nonneg h0 k0, Int.lt_of_le_of_lt (Int.tdiv_le_self _ h0) h1⟩
  · show 0 ≤ a.tmod b ∧ a.tmod b < sizeW w
    refine ⟨Int.tmod_nonneg _ h0, ?_⟩
    by_cases hb : b = 0
    · subst hb; rw [Int.tmod_zero]; exact h1
    · have := Int.tmod_lt_of_pos a (show 0 < b by omega); omega
  · rw [hj.1]; exact ⟨by omega, hbit 0⟩
  · rw [hj.2.1]; exact ⟨by omega, hbit 1⟩
  · rw [hj.2.2]; exact ⟨by omega, hbit 2⟩
  · rw [jn13 h8 h0 h1 k0]; exact md _
  · rw [jn14 h0 h1 k0]
    have hpp : (0 : Int) < 2 ^ b.toNat := by
      have := Nat.two_pow_pos b.toNat
      have hp2 : (2 : Int) ^ b.toNat = ((2 ^ b.toNat : Nat) : Int) := by simp
      omega
    exact ⟨Int.ediv_nonneg h0 (by omega), Int.lt_of_le_of_lt (Int.ediv_le_self _ h0) h1⟩
  · show 0 ≤ (if a = b then (1 : Int) else 0) ∧ (if a = b then (1 : Int) else 0) < sizeW w
    split <;> omega
  · show 0 ≤ (if a < b then (1 : Int) else 0) ∧ (if a < b then (1 : Int) else 0) < sizeW w
    split <;> omega
/-- What an expression comes to, plainly, and its first trap. -/
def rp (w : Int) (v : Vs) : List Tm → List Int → Int × Int
  | [], s => (s.getD 0 0, 0)
  | t :: l, s =>
    let x := s.drop (s.length - (tks t.op).toNat)
    let r := val1 w v t x
    let q := rp w v l (s.take (s.length - (tks t.op).toNat) ++ [r.1])
    (q.1, if r.2 ≠ 0 then r.2 else q.2)
theorem rk_rp (w : Int) (v : Vs) : ∀ (l : List Tm) (s : List Int), rk w v l s = if (rp w v l s).2 ≠ 0 then (0, (rp w v l s).2) else ((rp w v l s).1, 0)
  | [], s => by simp [rk, rp]
  | t :: l, s => by
    simp only [rk, rp]
    by_cases h : (val1 w v t (s.drop (s.length - (tks t.op).toNat))).2 = 0
    · simp only [h, ne_eq, not_true_eq_false, if_false]
      exact rk_rp w v l _
    · simp only [ne_eq, h, not_false_eq_true, if_true]
end Go.Eng.C
/- Traps, in plain Lean: where one may be, and that there is none where there may be none. No program in sight. -/
namespace Go.Eng.C
open Go Go.RowKit
set_option linter.unusedVariables false
set_option linter.unusedSimpArgs false
/-- A Term that may trap behind another one. -/
def trapAt (p : Pr) (q t : Tm) : Prop := ((t.op = 8 ∨ t.op = 9) ∧ (q.op ≠ 0 ∨ q.n = 0)) ∨ (t.op = 2 ∧ ¬ (q.op = 0 ∧ q.n < p.arrs.getD t.n.toNat 0))
def MayT (p : Pr) (e : List Tm) : Prop := ∃ i, i + 1 < e.length ∧ trapAt p (e.getD i zt) (e.getD (i + 1) zt)
/-- One number below a bound (and not 0). -/
def Known (y : List Tm) (b : Int) (nt : Bool) : Prop := y.length = 1 ∧ (y.getD 0 zt).op = 0 ∧ (y.getD 0 zt).n < b ∧ ¬ (nt = true ∧ (y.getD 0 zt).n = 0)
theorem tks0 {op : Int} (h : op = 0 ∨ op = 1) : tks op = 0 := by rcases h with rfl | rfl <;> rfl
theorem Tr.one {a : Tr} (h : a.Ok) (h0 : a.last.op = 0) : a.flat = [a.last] := by
  have h1 := Tr.kids_len h
  rw [tks0 (.inl h0)] at h1
  have h2 : a.kids = [] := List.eq_nil_of_length_eq_zero (by omega)
  rw [Tr.flat_kids, h2]; rfl
theorem Tr.last_of {a : Tr} {l : List Tm} {t : Tm} (h : a.flat = l ++ [t]) : a.last = t := by
  rw [Tr.flat_kids] at h
  exact (List.append_inj' h rfl).2 |> fun h => by simpa using h
theorem known_iff {a : Tr} (h : a.Ok) (b : Int) (nt : Bool) : Known a.flat b nt ↔ a.last.op = 0 ∧ a.last.n < b ∧ ¬ (nt = true ∧ a.last.n = 0) := by
  constructor
  · rintro ⟨h1, h2, h3, h4⟩
    obtain ⟨t, ht⟩ := List.length_eq_one_iff.1 h1
    have : a.last = t := Tr.last_of (l := []) (by rw [ht]; rfl)
    rw [ht] at h2 h3 h4
    rw [this]
    exact ⟨h2, h3, h4⟩
  · rintro ⟨h1, h2, h3⟩
    rw [Tr.one h h1]
    exact ⟨rfl, h1, h2, h3⟩
theorem getD_app_l {a b : List Tm} {i : Nat} (h : i < a.length) : (a ++ b).getD i zt = a.getD i zt := by
  simp [List.getD_eq_getElem?_getD, List.getElem?_append_left h]
theorem getD_app_r {a b : List Tm} {i : Nat} : (a ++ b).getD (a.length + i) zt = b.getD i zt := by
  simp [List.getD_eq_getElem?_getD, List.getElem?_append_right]
theorem MayT.left {p : Pr} {a b : List Tm} (h : MayT p a) : MayT p (a ++ b) := by
  obtain ⟨i, h1, h2⟩ := h
  exact ⟨i, by simp; omega, by rw [getD_app_l (by omega), getD_app_l h1]; exact h2⟩
theorem MayT.right {p : Pr} {a b : List Tm} (h : MayT p b) : MayT p (a ++ b) := by
  obtain ⟨i, h1, h2⟩ := h
  refine ⟨a.length + i, by simp; omega, ?_⟩
  rw [getD_app_r, show a.length + i + 1 = a.length + (i + 1) by omega, getD_app_r]; exact h2
theorem MayT.mid {p : Pr} {a b : List Tm} {q t : Tm} (h : trapAt p q t) : MayT p (a ++ [q] ++ [t] ++ b) := by
  refine MayT.left ⟨a.length, by simp, ?_⟩
  have h1 : (a ++ [q] ++ [t]).getD a.length zt = q := by
    rw [List.append_assoc]
    simp
  have h2 : (a ++ [q] ++ [t]).getD (a.length + 1) zt = t := by
    rw [List.append_assoc, getD_app_r]; rfl
  rw [h1, h2]; exact h
theorem rk_one {w : Int} {v : Vs} {t : Tm} {xs : List Int} {V : Int} (hk : (xs.length : Int) = tks t.op) (hv : val1 w v t xs = (V, 0)) (l : List Tm) (s : List Int) : rk w v (t :: l) (s ++ xs) = rk w v l (s ++ [V]) := by
  have h1 : (s ++ xs).length - (tks t.op).toNat = s.length := by simp; omega
  simp only [rk, h1, List.drop_left, List.take_left, hv]
  simp
theorem MayT.last {p : Pr} {a : Tr} {r : List Tm} {t : Tm} (h : trapAt p a.last t) : MayT p (r ++ a.flat ++ [t]) := by
  rw [Tr.flat_kids]
  have := MayT.mid (p := p) (a := r ++ a.kids.flatten) (b := []) h
  simpa [List.append_assoc] using this
/-- Without a trap an expression comes to a value; a number to itself. -/
theorem evals_tree {p : Pr} {v : Vs} (hv : ∀ n : Int, 0 ≤ n → n < (p.arrs.length : Int) → ((v.cells.getD n.toNat []).length : Int) = p.arrs.getD n.toNat 0) :
    ∀ (a : Tr), a.Ok → (∀ t ∈ a.flat, t.op = 2 → t.n < (p.arrs.length : Int)) → ¬ MayT p a.flat → ∃ V, Evals p.w v a.flat V ∧ (a.last.op = 0 → V = a.last.n)
  | .t0 t, ha, hn, hm => by
    obtain ⟨ho, hk⟩ := ha
    have hop : t.op = 0 ∨ t.op = 1 := by unfold tks at hk; repeat' split at hk <;> omega
    rcases hop with h | h
    · refine ⟨t.n, fun l s => ?_, fun _ => rfl⟩
      have := rk_one (w := p.w) (v := v) (xs := []) (V := t.n) (by rw [hk]; rfl) (by simp [val1, h]) l s
      simp only [Tr.flat, List.singleton_append]
      simpa using this
    · refine ⟨v.vars.getD t.n.toNat 0, fun l s => ?_, fun h' => by simp only [Tr.last] at h'; omega⟩
      have := rk_one (w := p.w) (v := v) (xs := []) (V := v.vars.getD t.n.toNat 0) (by rw [hk]; rfl) (by simp [val1, h]) l s
      simp only [Tr.flat, List.singleton_append]
      simpa using this
  | .t1 t a, ha, hn, hm => by
    obtain ⟨ho, hk, ha⟩ := ha
    simp only [Tr.flat] at hn hm
    obtain ⟨A, hA, hAn⟩ := evals_tree hv a ha (fun x hx => hn x (List.mem_append_left _ hx)) (fun h => hm h.left)
    have hop : t.op = 2 ∨ t.op = 3 ∨ t.op = 4 := by unfold tks at hk; repeat' split at hk <;> omega
    have hval : ∃ V, val1 p.w v t [A] = (V, 0) := by
      rcases hop with h | h
      · have htr : ¬ trapAt p a.last t := fun h' => hm (by have := MayT.last (r := []) h'; simpa using this)
        have hq : a.last.op = 0 ∧ a.last.n < p.arrs.getD t.n.toNat 0 := by
          by_cases hc : a.last.op = 0 ∧ a.last.n < p.arrs.getD t.n.toNat 0
          · exact hc
          · exact absurd (.inr ⟨h, hc⟩) htr
        have hc := hv t.n ho.2.1 (hn t (by simp) h)
        have hAv := hAn hq.1
        refine ⟨(v.cells.getD t.n.toNat []).getD A.toNat 0, ?_⟩
        simp only [val1, h]
        rw [if_neg (by decide), if_neg (by decide), if_pos True.intro, if_pos (by simp only [List.getD_cons_zero]; omega)]
        rfl
      · refine ⟨tn p.w t.op A, ?_⟩
        simp only [val1]
        rw [if_neg (by omega), if_neg (by omega), if_neg (by omega), if_pos h]; rfl
    obtain ⟨V, hV⟩ := hval
    refine ⟨V, fun l s => ?_, fun h' => by simp only [Tr.last] at h'; omega⟩
    simp only [Tr.flat]
    rw [List.append_assoc, hA]
    exact rk_one (by rw [hk]; rfl) hV l s
  | .t2 t a b, ha, hn, hm => by
    obtain ⟨ho, hk, ha, hb⟩ := ha
    simp only [Tr.flat] at hn hm
    obtain ⟨A, hA, hAn⟩ := evals_tree hv a ha (fun x hx => hn x (by simp [hx])) (fun h => hm (h.left.left))
    obtain ⟨B, hB, hBn⟩ := evals_tree hv b hb (fun x hx => hn x (by simp [hx])) (fun h => hm (h.right.left))
    have hop : 5 ≤ t.op ∧ t.op ≤ 16 := by unfold tks at hk; repeat' split at hk <;> omega
    have hz : ¬ (B = 0 ∧ (t.op = 8 ∨ t.op = 9)) := by
      rintro ⟨h0, h⟩
      have htr : ¬ trapAt p b.last t := fun h' => hm (MayT.last h')
      by_cases hc : b.last.op = 0
      · by_cases hc2 : b.last.n = 0
        · exact htr (.inl ⟨h, .inr hc2⟩)
        · have := hBn hc; omega
      · exact htr (.inl ⟨h, .inl hc⟩)
    refine ⟨jn p.w t.op A B, fun l s => ?_, fun h' => by simp only [Tr.last] at h'; omega⟩
    simp only [Tr.flat]
    rw [List.append_assoc, List.append_assoc, hA, hB, List.append_assoc]
    refine rk_one (by rw [hk]; rfl) ?_ l s
    simp only [val1]
    rw [if_neg (by omega), if_neg (by omega), if_neg (by omega), if_neg (by omega), if_neg (by omega), if_neg (by simpa using hz)]
    rfl
  | .t3 t a b c, ha, hn, hm => by
    obtain ⟨ho, hk, ha, hb, hc⟩ := ha
    simp only [Tr.flat] at hn hm
    obtain ⟨A, hA, hAn⟩ := evals_tree hv a ha (fun x hx => hn x (by simp [hx])) (fun h => hm (h.left.left.left))
    obtain ⟨B, hB, hBn⟩ := evals_tree hv b hb (fun x hx => hn x (by simp [hx])) (fun h => hm (h.right.left.left))
    obtain ⟨C, hC, hCn⟩ := evals_tree hv c hc (fun x hx => hn x (by simp [hx])) (fun h => hm (h.right.left))
    have hop : t.op = 17 := by unfold tks at hk; repeat' split at hk <;> omega
    have hval : ∃ V, val1 p.w v t [A, B, C] = (V, 0) := ⟨_, by
      simp only [val1, hop]
      rw [if_neg (by decide), if_neg (by decide), if_neg (by decide), if_neg (by decide), if_pos True.intro]⟩
    obtain ⟨V, hV⟩ := hval
    refine ⟨V, fun l s => ?_, fun h' => by simp only [Tr.last] at h'; omega⟩
    simp only [Tr.flat]
    rw [List.append_assoc, List.append_assoc, List.append_assoc, hA, hB, hC, List.append_assoc, List.append_assoc]
    exact rk_one (by rw [hk]; rfl) hV l s
/-- What may not trap has no trap. -/
theorem no_trap {p : Pr} {v : Vs} {e : List Tm} (hv : ∀ n : Int, 0 ≤ n → n < (p.arrs.length : Int) → ((v.cells.getD n.toNat []).length : Int) = p.arrs.getD n.toNat 0) (he : expOk e = true) (hn : ∀ t ∈ e, t.op = 2 → t.n < (p.arrs.length : Int)) (hm : ¬ MayT p e) : (rk p.w v e []).2 = 0 := by
  obtain ⟨a, ha, rfl, -⟩ := exp_tree he
  obtain ⟨V, hV, -⟩ := evals_tree hv a ha hn hm
  rw [hV.rk]
/-- At a place of a right expression: the parts of what ends there. -/
theorem sub_at {e : List Tm} (h : expOk e = true) {i : Nat} (hi : i < e.length) : ∃ (pre : List Tm) (ks : List (List Tm)), e.take (i + 1) = pre ++ (ks.flatten ++ [e.getD i zt]) ∧ bk (e.take (i + 1)).reverse 1 = some pre.length ∧ expOk (ks.flatten ++ [e.getD i zt]) = true ∧ (ks.flatten ++ [e.getD i zt]).length ≤ 3000 ∧ (∀ s ∈ ks, IsTr s) ∧ (ks.length : Int) = tks (e.getD i zt).op ∧ ks.length ≤ 3 ∧ tmOk (e.getD i zt) ∧ (0 < ks.length → 0 < i ∧ ∀ b nt, Known (ks.getD (ks.length - 1) []) b nt ↔ (e.getD (i - 1) zt).op = 0 ∧ (e.getD (i - 1) zt).n < b ∧ ¬ (nt = true ∧ (e.getD (i - 1) zt).n = 0)) := by
  obtain ⟨r, a, ho, ht⟩ := exp_at h hi
  have ha := ho.1
  have hlen : (e.take (i + 1)).length = i + 1 := by simp; omega
  have hl3 : e.length ≤ 3000 := by simp only [expOk, Bool.and_eq_true, decide_eq_true_eq] at h; exact h.1
  have hg : ∀ j, j ≤ i → (e.take (i + 1)).getD j zt = e.getD j zt := fun j hj => by
    simp [List.getD_eq_getElem?_getD, List.getElem?_take, show j < i + 1 by omega]
  have hal := Tr.flat_kids a
  have hlast : a.last = e.getD i zt := by
    rw [← hg i (Nat.le_refl _), ht, hal]
    rw [ht, hal] at hlen
    simp only [List.length_append, List.length_singleton] at hlen
    have h1 : i = (flats r ++ a.kids.flatten).length + 0 := by rw [List.length_append]; omega
    rw [← List.append_assoc, h1, getD_app_r]; rfl
  have hkl := Tr.kids_len ha
  have hr := tks_range a.last.op
  refine ⟨flats r, a.kids, by rw [ht, hal, hlast], by rw [ht]; exact bk_begin ha, ?_, ?_, kids_ok ha, by rw [← hlast]; exact hkl, by omega, by rw [← hlast]; (cases a <;> exact ha.1), fun hk => ?_⟩
  · rw [← hlast, ← hal]
    exact tree_exp ha (by rw [ht] at hlen; simp only [List.length_append] at hlen; omega)
  · rw [← hlast, ← hal]
    rw [ht] at hlen; simp only [List.length_append] at hlen; omega
  · have hkm : a.kids.getD (a.kids.length - 1) [] ∈ a.kids := by
      have : a.kids.length - 1 < a.kids.length := by omega
      simp [List.getD_eq_getElem?_getD, this]
    obtain ⟨b, hb, hbf⟩ := kids_ok ha _ hkm
    have hkf : a.kids.flatten = (a.kids.take (a.kids.length - 1)).flatten ++ b.flat := by
      have h1 := ks_take a.kids (a.kids.length - 1) (by omega)
      rw [show a.kids.length - 1 + 1 = a.kids.length by omega, List.take_length] at h1
      rw [h1, hbf]
      simp [List.getD_eq_getElem?_getD, show a.kids.length - 1 < a.kids.length by omega]
    have hbl := Tr.flat_kids b
    have hi0 : 0 < i := by
      rw [ht, hal, hkf, hbl] at hlen
      simp only [List.length_append, List.length_singleton] at hlen; omega
    refine ⟨hi0, fun bd nt => ?_⟩
    have hprev : b.last = e.getD (i - 1) zt := by
      rw [← hg (i - 1) (by omega), ht, hal, hkf, hbl]
      rw [ht, hal, hkf, hbl] at hlen
      simp only [List.length_append, List.length_singleton] at hlen
      have h1 : i - 1 = (flats r ++ (a.kids.take (a.kids.length - 1)).flatten ++ b.kids.flatten).length + 0 := by simp only [List.length_append]; omega
      rw [show flats r ++ ((a.kids.take (a.kids.length - 1)).flatten ++ (b.kids.flatten ++ [b.last]) ++ [a.last]) = (flats r ++ (a.kids.take (a.kids.length - 1)).flatten ++ b.kids.flatten) ++ ([b.last] ++ [a.last]) by simp [List.append_assoc]]
      rw [h1, getD_app_r]; rfl
    rw [← hbf, known_iff hb, hprev]
end Go.Eng.C
