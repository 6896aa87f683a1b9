/- Part of the pure side: StepsOf. -/
import Derived.Test.YtbjmhdoagjmmcaaPCoreg
import Derived.Test.YtbjmhdoagjmmcaaPCoreg0
import Derived.Test.YtbjmhdoagjmmcaaPCoreg7
import Derived.Test.YtbjmhdoagjmmcaaPCoreg17
import Derived.Test.YtbjmhdoagjmmcaaTerm
import Derived.Test.YtbjmhdoagjmmcaaFCodeOf
set_option linter.unusedVariables false
set_option linter.unusedSimpArgs false
namespace Go.Proofs.Ytbjmhdoagjmmcaa.Pure
open Go.RowKit Go.Proofs.Ytbjmhdoagjmmcaa.PCore Go.Proofs.YtbjmhdoagjmmcaaW.PrintWords Go.Proofs.YtbjmhdoagjmmcaaW.PrintLast Go.Proofs.YtbjmhdoagjmmcaaW.PrintMore Go.Proofs.Ytbjmhdoagjmmcaa.Bs

/-- Of a right Prog the nodes are what its tree is. -/
theorem Right.nodes {n : Nat} {a b : List S77} {t : Int} {c : List Int} {x : List S42} {l : List S71} {v : Nat} (h : Right n a b t c x l v) : Ev (fun k => impl_nodesOf.f k x) (l, true) := by
  obtain ⟨_, _, _, x40, _⟩ := roomOk_iff.1 h.room
  obtain ⟨k1, k2⟩ := h.blk
  obtain ⟨m', n', kk⟩ := k2 [] 0 0 (by simp; omega)
  simp only [impl_nodesOf.f]
  refine Ev.bind (Ev.step (fun k => by rw [impl_nester_many.f]; rfl) kk) ?_
  simp only [if_true, List.nil_append]
  exact (Ev.now _).cast (by simp)
theorem stepsOf_all (w : Int) (a b : List S77) (ha : a.length ≤ 1048576) (hb : b.length ≤ 1048576) (t : Int) (c : List Int) (x : List S42) (hx : x.length ≤ 1048576) (hq : ∀ s ∈ x, s.f2.length ≤ 1048576 ∧ s.f3.length ≤ 1048576) :
    ∃ r : Int, Ev (fun k => spec_StepsOf.f k w a b t c x) r ∧ Ev (fun k => impl_StepsOf.f k w a b t c x) r := by
  obtain ⟨r, k1, k2, k3⟩ := progOk_all w a b ha hb t c x hx hq
  cases r
  · refine ⟨-1, ?_, ?_⟩
    · simp only [spec_StepsOf.f]
      refine Ev.bind k1 ?_
      simp only [Bool.false_eq_true, if_false]
      exact Ev.now _
    · simp only [impl_StepsOf.f]
      refine Ev.bind k2 ?_
      simp only [Bool.false_eq_true, if_false]
      exact Ev.now _
  · obtain ⟨n, l, v, rfl, h⟩ := k3 rfl
    have h4 := h.v4
    refine ⟨(v : Int), ?_, ?_⟩
    · simp only [spec_StepsOf.f]
      refine Ev.bind k1 ?_
      simp only [if_true]
      exact Ev.bind (h.spec.f (by omega)) (Ev.now _)
    · simp only [impl_StepsOf.f]
      refine Ev.bind k2 ?_
      simp only [if_true]
      refine Ev.bind h.nodes ?_
      exact Ev.bind ((h.impl.f h.len).cast (by rw [Nat.min_eq_left (by omega)])) (Ev.now _)

end Go.Proofs.Ytbjmhdoagjmmcaa.Pure
