/- Surroundings, only read. -/
import Derived.Test.YtbhdobjjhkkpkaaEngPa
import Derived.Test.YtbhdobjjhkkpkaaEngXb
import Derived.Test.YtbhdobjjhkkpkaaEngB4
import Derived.Test.YtbhdobjjhkkpkaaEngV1
namespace Go.Eng.C
open Go Go.Eng Go.RowKit Go.Proofs
set_option linter.unusedVariables false
set_option linter.unusedSimpArgs false
set_option maxRecDepth 10000
variable {X : FuncId → List AV → AV → List AV → Prop}
/-- A row of numbers, only read. -/
def eRow (l : List Int) : List AV := [.im l.length (encL eI l)]
instance : Wid eRow 1 := ⟨fun _ => rfl⟩
instance : Pl eRow := ⟨fun _ => rfl⟩
/-- Values and cells, only read. -/
def enR (v : Vs) : List AV := [.im v.vars.length (encL eI v.vars), .im v.cells.length (encL eRow v.cells)]
structure EOk (p : Pr) (v : Vs) : Prop where
  n : (v.vars.length : Int) = varsN p
  vs : ∀ x ∈ v.vars, 0 ≤ x ∧ x < sizeW p.w
  m : v.cells.length = p.arrs.length
  c : ∀ i < p.arrs.length, ((v.cells.getD i []).length : Int) = p.arrs.getD i 0 ∧ ∀ x ∈ v.cells.getD i [], 0 ≤ x ∧ x < sizeW p.w
theorem rk_cons (w : Int) (v : Vs) (t : Tm) (l : List Tm) (s : List Int) (b : Nat) (hb : b = s.length - (tks t.op).toNat) {V c : Int} (hv : val1 w v t (s.drop b) = (V, c)) : rk w v (t :: l) s = if c ≠ 0 then (0, c) else rk w v l (s.take b ++ [V]) := by
  subst hb
  simp only [rk, hv]
theorem getD_drop0 (s : List Int) (b j : Nat) : (s.drop b).getD j 0 = s.getD (b + j) 0 := by
  simp [List.getD_eq_getElem?_getD, List.getElem?_drop]
theorem getD_in {l : List Int} {q : Int → Prop} (h : ∀ x ∈ l, q x) {i : Nat} (hi : i < l.length) : q (l.getD i 0) := by
  refine h _ ?_
  simp [List.getD_eq_getElem?_getD, hi]
theorem encL_len1 (l : List Int) : (encL eI l).length = l.length := by have := encL_length (f := eI) (sz := 1) l; omega
theorem pile_app (s : List Int) (b : Nat) (hb : b ≤ s.length) (V : Int) : AV.ow 2 1 (b + 1) (encL eI (s.take b) ++ [.sc (.int .i64 V)]) = .ow 2 1 (s.take b ++ [V]).length (encL eI (s.take b ++ [V])) := by
  have h1 : (s.take b ++ [V]).length = b + 1 := by simp; omega
  rw [h1, encL_append]; rfl
def inW (w : Int) (x : Int) : Prop := 0 ≤ x ∧ x < sizeW w
end Go.Eng.C
