/- The engine, part Yd: the least and the greatest of two numbers. -/
import Derived.Test.YtdihagagelngiaaEngYc
namespace Go.Eng
open Go Go.RowKit
set_option linter.unusedVariables false
set_option linter.unusedSimpArgs false
section
variable {P : Program} {X : FuncId → List AV → AV → List AV → Prop} {all : Array Oper} {R : (Nat → AV) → Prop}
variable {g : Option (Nat × Bool)} {env : Env} {d t i : Nat} {l : List Oper} {ty : TypeId} {pos : String} {af : Array Edge}
theorem qo_min {σ : Nat → AV} {x y : Operand} {ts : Array TypeId} {a b : Int} (hx : ov σ x = .sc (.int .i64 a)) (hy : ov σ y = .sc (.int .i64 b)) : QO P σ (.call { callee := .builtin .min, args := #[x, y], argTypes := ts }) (.sc (.int .i64 (min a b))) := by
  refine .pure _ (.int .i64 (min a b)) fun ρ o w ho hρ => ?_
  have e1 := hρ x _ (by rw [hx]; rfl)
  have e2 := hρ y _ (by rw [hy]; rfl)
  have e : (if b < a then b else a) = min a b := by split <;> omega
  simp [execOp, ho, e1, e2, resolve, invoke, builtin, Builtin.min_, Builtin.min2, e]
theorem qo_max {σ : Nat → AV} {x y : Operand} {ts : Array TypeId} {a b : Int} (hx : ov σ x = .sc (.int .i64 a)) (hy : ov σ y = .sc (.int .i64 b)) : QO P σ (.call { callee := .builtin .max, args := #[x, y], argTypes := ts }) (.sc (.int .i64 (max a b))) := by
  refine .pure _ (.int .i64 (max a b)) fun ρ o w ho hρ => ?_
  have e1 := hρ x _ (by rw [hx]; rfl)
  have e2 := hρ y _ (by rw [hy]; rfl)
  have e : (if a < b then b else a) = max a b := by split <;> omega
  simp [execOp, ho, e1, e2, resolve, invoke, builtin, Builtin.max_, Builtin.max2, e]
theorem QE.min {x y : Operand} {ts : Array TypeId} {a b : Int} (hx : ov (look env) x = .sc (.int .i64 a)) (hy : ov (look env) y = .sc (.int .i64 b)) : Ev P X (.qe ⟨some d, .call { callee := .builtin .min, args := #[x, y], argTypes := ts }, ty, pos, af, g⟩ (look env) (.sc (.int .i64 (Min.min a b)))) := .qo (qo_min hx hy)
theorem QE.max {x y : Operand} {ts : Array TypeId} {a b : Int} (hx : ov (look env) x = .sc (.int .i64 a)) (hy : ov (look env) y = .sc (.int .i64 b)) : Ev P X (.qe ⟨some d, .call { callee := .builtin .max, args := #[x, y], argTypes := ts }, ty, pos, af, g⟩ (look env) (.sc (.int .i64 (Max.max a b)))) := .qo (qo_max hx hy)
end
end Go.Eng
