/- What is read as data of this program's types: terms, inputs, statements, programs. -/
import Derived.Test.YtbhdobjjhkkpkaaEngOp
import Derived.Test.YtbhdobjjhkkpkaaEngXb
namespace Go.Eng.C
open Go Go.Eng Go.RowKit Go.Proofs
set_option linter.unusedVariables false
theorem opTerm : OpA Try.prog 95 tm (fun _ => True) := OpA.as (OpA.struct Try.underlying95 (by kernel_rfl) (OpF.cons (sz := 1) (sz' := 1) rfl (by kernel_rfl) (OpA.int Try.underlying2) rfl (OpF.one rfl (by kernel_rfl) (OpA.int Try.underlying2)))) tm (fun p => (⟨p.1, p.2⟩ : Tm)) (fun _ => rfl) (fun _ => True) (fun _ _ => trivial)
theorem opInput : OpA Try.prog 172 inp (fun _ => True) := OpA.as (OpA.struct Try.underlying172 (by kernel_rfl) (OpF.cons (sz := 1) (sz' := 1) rfl (by kernel_rfl) (OpA.int Try.underlying2) rfl (OpF.one rfl (by kernel_rfl) (OpA.int Try.underlying2)))) inp (fun p => (⟨p.1, p.2⟩ : Inp)) (fun _ => rfl) (fun _ => True) (fun _ _ => trivial)
theorem opTerms : OpA Try.prog 30 (fun l : List Tm => [.im l.length (encL tm l)]) (fun l => l.length ≤ 9223372036854775807 ∧ ∀ x ∈ l, True) := OpA.slice Try.underlying30 (by kernel_rfl) opTerm
theorem opInputs : OpA Try.prog 22 (fun l : List Inp => [.im l.length (encL inp l)]) (fun l => l.length ≤ 9223372036854775807 ∧ ∀ x ∈ l, True) := OpA.slice Try.underlying22 (by kernel_rfl) opInput
theorem opInts : OpA Try.prog 23 (fun l : List Int => [.im l.length (encL eI l)]) (fun l => l.length ≤ 9223372036854775807 ∧ ∀ x ∈ l, (Lit.int .i64 x).wf = true) := OpA.slice (f := eI) Try.underlying23 (by kernel_rfl) (OpA.int Try.underlying2)
def StQ (s : St) : Prop := s.pl.length ≤ 9223372036854775807 ∧ s.ex.length ≤ 9223372036854775807
theorem opStmt : OpA Try.prog 167 stR StQ := OpA.as (OpA.struct Try.underlying167 (by kernel_rfl) (OpF.cons (sz := 1) (sz' := 3) rfl (by kernel_rfl) (OpA.int Try.underlying2) rfl (OpF.cons (sz := 1) (sz' := 2) rfl (by kernel_rfl) (OpA.int Try.underlying2) rfl (OpF.cons (sz := 1) (sz' := 1) rfl (by kernel_rfl) opTerms rfl (OpF.one rfl (by kernel_rfl) opTerms))))) stR (fun p => (⟨p.1, p.2.1, p.2.2.1, p.2.2.2⟩ : St)) (fun _ => rfl) StQ (fun _ h => ⟨h.2.2.1.1, h.2.2.2.1⟩)
theorem opStmts : OpA Try.prog 24 (fun l : List St => [.im l.length (encL stR l)]) (fun l => l.length ≤ 9223372036854775807 ∧ ∀ x ∈ l, StQ x) := OpA.slice Try.underlying24 (by kernel_rfl) opStmt
/-- What is known of a program that is read. -/
structure PrQ (p : Pr) : Prop where
  l : p.lows.length ≤ 9223372036854775807
  s : p.secs.length ≤ 9223372036854775807
  a : p.arrs.length ≤ 9223372036854775807
  b : p.body.length ≤ 9223372036854775807
  e : ∀ s ∈ p.body, StQ s
theorem opProg : OpA Try.prog 26 prR PrQ := OpA.as (OpA.struct Try.underlying26 (by kernel_rfl) (OpF.cons (sz := 1) (sz' := 5) rfl (by kernel_rfl) (OpA.int Try.underlying2) rfl (OpF.cons (sz := 1) (sz' := 4) rfl (by kernel_rfl) opInputs rfl (OpF.cons (sz := 1) (sz' := 3) rfl (by kernel_rfl) opInputs rfl (OpF.cons (sz := 1) (sz' := 2) rfl (by kernel_rfl) (OpA.int Try.underlying2) rfl (OpF.cons (sz := 1) (sz' := 1) rfl (by kernel_rfl) opInts rfl (OpF.one rfl (by kernel_rfl) opStmts))))))) prR (fun p => (⟨p.1, p.2.1, p.2.2.1, p.2.2.2.1, p.2.2.2.2.1, p.2.2.2.2.2⟩ : Pr)) (fun _ => rfl) PrQ (fun _ h => ⟨h.2.1.1, h.2.2.1.1, h.2.2.2.2.1.1, h.2.2.2.2.2.1, h.2.2.2.2.2.2⟩)
end Go.Eng.C
