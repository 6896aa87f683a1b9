/- Contracts of functions, by the engine: the parts of an expression. -/
import Derived.Test.YtdihagagelngiaaEngVc
namespace Go.Eng.C
open Go Go.Eng Go.RowKit Go.Proofs
set_option linter.unusedVariables false
set_option linter.unusedSimpArgs false
set_option maxRecDepth 10000
variable {X : FuncId → List AV → AV → List AV → Prop}
theorem nm_spec_l2First : (Try.f133.name == "runtime.NumGoroutine") = false := by decide
theorem nm_spec_l2Copy : (Try.f115.name == "runtime.NumGoroutine") = false := by decide
theorem nm_impl_ownTerms : (Try.f113.name == "runtime.NumGoroutine") = false := by decide
theorem nm_spec_PartsOf : (Try.f132.name == "runtime.NumGoroutine") = false := by decide
theorem l2First (x : List Tm) (i r : Nat) (hx : x.length ≤ 3000) (hi : i < x.length) (hb : bk (x.take (i + 1)).reverse 1 = some r) : Ev Try.prog X (.fn 133 [.im x.length (encL tm x), i64 i] (i64 r) [.dead, .dead]) := by
  refine Ev.fnW (env := [(0, .im x.length (encL tm x)), (1, i64 i)]) Try.func133 rfl nm_spec_l2First rfl rfl (by kernel_rfl) (.cons rfl (.cons rfl .nil)) ?_
  refine go ?_
  refine WC.loopS (S := Nat × Int × Int) (fun s => [(0, .im x.length (encL tm x)), (6, i64 s.2.1), (5, i64 s.2.2)]) (fun s => s.1 < x.length ∧ s.2.1 = s.1 ∧ s.2.2 ≤ 4 * ((x.length : Int) - s.1) ∧ -4 * ((x.length : Int) - s.1) ≤ s.2.2 ∧ bk (x.take (s.1 + 1)).reverse s.2.2 = some r) (fun s => s.1) (i, (i : Int), 1) (.cons rfl (.cons rfl (.cons rfl .nil))) ⟨hi, rfl, by dsimp only; omega, by dsimp only; omega, hb⟩ ?_
  rintro ⟨j, y, n⟩ ⟨h1, hy, h2, h3, h4⟩
  dsimp only at h1 hy h2 h3 h4 ⊢
  subst hy
  rw [bk_step h1] at h4
  have hr := tks_range (x.getD j zt).op
  refine go ?_
  refine WO.ixN (f := tm) zt rfl rfl rfl h1 rfl ?_
  refine go ?_
  refine WO.call rfl rfl rfl (specTakesOf _) rfl rfl ?_
  refine go ?_
  refine WO.cmp rfl rfl rfl rfl rfl (fun h5 => ?_) (fun h5 => ?_)
  · rw [if_pos h5] at h4
    cases h4
    refine go ?_
    exact retV rfl rfl rfl rfl
  · rw [if_neg h5] at h4
    have hj : 0 < j := by have := bk_lt (by omega) h4; omega
    obtain ⟨j, rfl⟩ : ∃ m, j = m + 1 := ⟨j - 1, by omega⟩
    refine go ?_
    exact lpK.mk (j, ((j + 1 : Nat) : Int) - 1, n - 1 + tks (x.getD (j + 1) zt).op) (.cons rfl (.cons rfl (.cons rfl .nil))) ⟨by dsimp only; omega, by dsimp only; omega, by dsimp only; omega, by dsimp only; omega, h4⟩ (by dsimp only; omega)
theorem l2Copy (x : List Tm) (hx : x.length ≤ 1048576) : Ev Try.prog X (.fn 115 [.im x.length (encL tm x)] (.ow 53 2 x.length (encL tm x)) [.dead]) := by
  refine Ev.fnW (env := [(0, .im x.length (encL tm x))]) Try.func115 rfl nm_spec_l2Copy rfl rfl (by kernel_rfl) (.cons rfl .nil) ?_
  refine go ?_
  refine WO.build0 rfl rfl rfl ?_
  refine go ?_
  refine WO.apI rfl rfl rfl rfl rfl (encL_length _) rfl (by unfold maxLen; omega) (by omega) rfl ?_
  rw [Nat.zero_add, List.nil_append]
  refine go ?_
  exact retO rfl rfl (encL_length _) rfl rfl rfl
theorem ownTerms (x : List Tm) (hx : x.length ≤ 1048576) : Ev Try.prog X (.fn 113 [.im x.length (encL tm x)] (.ow 53 2 x.length (encL tm x)) [.dead]) := by
  refine Ev.fnW (env := [(0, .im x.length (encL tm x))]) Try.func113 rfl nm_impl_ownTerms rfl rfl (by kernel_rfl) (.cons rfl .nil) ?_
  refine go ?_
  refine WO.build0 rfl rfl rfl ?_
  refine go ?_
  refine WO.apI rfl rfl rfl rfl rfl (encL_length _) rfl (by unfold maxLen; omega) (by omega) rfl ?_
  rw [Nat.zero_add, List.nil_append]
  refine go ?_
  exact retO rfl rfl (encL_length _) rfl rfl rfl
end Go.Eng.C
