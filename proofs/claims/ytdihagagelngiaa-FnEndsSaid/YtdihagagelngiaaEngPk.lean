/- Expressions and their parts, in plain Lean. -/
import Derived.Test.YtdihagagelngiaaEngPt
namespace Go.Eng.C
open Go Go.RowKit
set_option linter.unusedVariables false
set_option linter.unusedSimpArgs false
def zt : Tm := ⟨0, 0⟩
/-- These Terms are one tree. -/
def IsTr (s : List Tm) : Prop := ∃ a : Tr, a.Ok ∧ a.flat = s
theorem IsTr.pos {s : List Tm} (h : IsTr s) : 0 < s.length := by
  obtain ⟨a, _, h2⟩ := h
  have := a.flat_pos
  rw [h2] at this; exact this
theorem kids_ok {a : Tr} (h : a.Ok) : ∀ k ∈ a.kids, ∃ b : Tr, b.Ok ∧ b.flat = k := by
  intro k hk
  cases a with
  | t0 t => simp [Tr.kids] at hk
  | t1 t a => simp only [Tr.kids, List.mem_singleton] at hk; subst hk; exact ⟨a, h.2.2, rfl⟩
  | t2 t a b =>
    simp only [Tr.kids, List.mem_cons, List.not_mem_nil, or_false] at hk
    rcases hk with rfl | rfl
    · exact ⟨a, h.2.2.1, rfl⟩
    · exact ⟨b, h.2.2.2, rfl⟩
  | t3 t a b c =>
    simp only [Tr.kids, List.mem_cons, List.not_mem_nil, or_false] at hk
    rcases hk with rfl | rfl | rfl
    · exact ⟨a, h.2.2.1, rfl⟩
    · exact ⟨b, h.2.2.2.1, rfl⟩
    · exact ⟨c, h.2.2.2.2, rfl⟩
/-- A right expression: its parts, and its last Term. -/
theorem parts_ex {x : List Tm} (h : expOk x = true) : ∃ (ks : List (List Tm)) (t : Tm), x = ks.flatten ++ [t] ∧ (∀ s ∈ ks, IsTr s) ∧ (ks.length : Int) = tks t.op ∧ ks.length ≤ 3 ∧ IsTr x ∧ x.length ≤ 3000 := by
  obtain ⟨a, ho, hf, hl⟩ := exp_tree h
  have hk := Tr.kids_len ho
  have hr := tks_range a.last.op
  exact ⟨a.kids, a.last, by rw [← hf, Tr.flat_kids], kids_ok ho, hk, by omega, ⟨a, ho, hf⟩, hl⟩
/-- From the end of a part back to its begin. -/
theorem seg_bk {p s r : List Tm} (h : IsTr s) : bk ((p ++ s ++ r).take (p.length + s.length)).reverse 1 = some p.length := by
  obtain ⟨a, h1, h2⟩ := h
  rw [show (p ++ s ++ r).take (p.length + s.length) = p ++ s by rw [← List.length_append]; exact List.take_left, ← h2, bk_begin h1]
theorem ks_split (ks : List (List Tm)) (i : Nat) (h : i < ks.length) : ks.flatten = (ks.take i).flatten ++ ks[i] ++ (ks.drop (i + 1)).flatten := by
  conv => lhs; rw [← List.take_append_drop i ks]
  rw [List.flatten_append, List.drop_eq_getElem_cons h, List.flatten_cons, List.append_assoc]
theorem ks_take (ks : List (List Tm)) (i : Nat) (h : i < ks.length) : (ks.take (i + 1)).flatten = (ks.take i).flatten ++ ks[i] := by
  rw [List.take_succ_eq_append_getElem h, List.flatten_append, List.flatten_cons, List.flatten_nil, List.append_nil]
theorem bk_step {x : List Tm} {i : Nat} (hi : i < x.length) (n : Int) : bk (x.take (i + 1)).reverse n = if n - 1 + tks (x.getD i zt).op = 0 then some i else bk (x.take i).reverse (n - 1 + tks (x.getD i zt).op) := by
  rw [List.take_succ_eq_append_getElem hi, List.reverse_append, List.reverse_singleton, List.singleton_append, bk, List.getD_eq_getElem?_getD, List.getElem?_eq_getElem hi, List.length_reverse, List.length_take, Nat.min_eq_left (by omega)]; rfl
theorem bk_lt {x : List Tm} : ∀ {i : Nat} {n : Int} {r : Nat}, i ≤ x.length → bk (x.take i).reverse n = some r → r < i
  | 0, n, r, hi, h => by simp [bk] at h
  | i + 1, n, r, hi, h => by
    rw [bk_step (by omega)] at h
    split at h
    · cases h; omega
    · have := bk_lt (by omega) h; omega
end Go.Eng.C
