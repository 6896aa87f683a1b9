/- Small words for the pure side, without any program. -/
import Derived.Test.YtdihagagelngiaaEngU
namespace Go.Eng.C
open Go Go.RowKit
set_option linter.unusedVariables false
set_option linter.unusedSimpArgs false

def rd (l : List Int) (i : Int) : Int := l.getD i.toNat 0
theorem wrap_id {x : Int} (h0 : -9223372036854775808 ≤ x) (h1 : x ≤ 9223372036854775807) : wrap64 x = x := by
  unfold wrap64; omega
theorem wf_i64 {x : Int} (h : (Lit.int .i64 x).wf = true) : -9223372036854775808 ≤ x ∧ x ≤ 9223372036854775807 := by
  have h' : (decide (IntKind.i64.min ≤ x) && decide (x ≤ IntKind.i64.max)) = true := h
  rw [show IntKind.i64.min = -9223372036854775808 from rfl, show IntKind.i64.max = 9223372036854775807 from rfl, Bool.and_eq_true, decide_eq_true_eq, decide_eq_true_eq] at h'
  exact h'

theorem rd_cast (l : List Int) (i : Nat) : rd l (i : Int) = l.getD i 0 := by simp [rd]
theorem rd_lt (l : List Int) (i : Nat) (h : i < l.length) : rd l (i : Int) = l[i] := by simp [rd, h]
theorem drop_rd (l : List Int) (i : Nat) (h : i < l.length) : l.drop i = rd l (i : Int) :: l.drop (i + 1) := by
  rw [rd_lt l i h, List.drop_eq_getElem_cons h]
theorem take_rd (l : List Int) (i : Nat) (h : i < l.length) : l.take (i + 1) = l.take i ++ [rd l (i : Int)] := by
  rw [rd_lt l i h, List.take_succ_eq_append_getElem h]

theorem wrap_succ {i : Nat} (h : i < 9223372036854775807) : wrap64 ((i : Int) + 1) = ((i + 1 : Nat) : Int) := by
  unfold wrap64; omega
theorem wrap_pred {i : Nat} (h : i < 9223372036854775807) : wrap64 (((i + 1 : Nat) : Int) - 1) = (i : Int) := by
  unfold wrap64; omega
theorem ext_at {α : Type} {a b : List α} (hl : a.length = b.length) (h : ∀ j, j < b.length → a[j]? = b[j]?) : a = b := by
  apply List.ext_getElem?
  intro j
  by_cases hj : j < b.length
  · exact h j hj
  · rw [List.getElem?_eq_none (by omega), List.getElem?_eq_none (by omega)]
/-- m, m + 1, .. : n of them. -/
def ups (m : Int) (n : Nat) : List Int := (List.range n).map fun (j : Nat) => m + (j : Int)
theorem ups_len (m : Int) (n : Nat) : (ups m n).length = n := by simp [ups]
theorem ups_at {m : Int} {n j : Nat} (h : j < n) : (ups m n)[j]? = some (m + (j : Int)) := by simp [ups, h]
theorem ups_rd {m : Int} {n j : Nat} (h : j < n) : rd (ups m n) (j : Int) = m + (j : Int) := by
  rw [rd_cast, List.getD_eq_getElem?_getD, ups_at h]; rfl
/-- How many a Term takes. -/
def tks (a : Int) : Int := if a = 0 ∨ a = 1 then 0 else if a = 2 ∨ a = 3 ∨ a = 4 then 1 else if 5 ≤ a ∧ a ≤ 16 then 2 else if a = 17 then 3 else -1
end Go.Eng.C
