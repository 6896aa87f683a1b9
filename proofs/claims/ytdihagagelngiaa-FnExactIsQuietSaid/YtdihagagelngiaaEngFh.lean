/- The law FnExactIsQuiet, walked by the engine. -/
import Derived.Test.YtdihagagelngiaaEngFg
import Derived.Test.YtdihagagelngiaaEngV6
import Derived.Test.YtdihagagelngiaaEngOq
namespace Go.Eng.C
open Go Go.Eng Go.RowKit Go.Proofs
set_option linter.unusedVariables false
set_option linter.unusedSimpArgs false
set_option maxRecDepth 10000
variable {X : FuncId → List AV → AV → List AV → Prop}
theorem nm_laws_FnExactIsQuiet : (Try.f12.name == "runtime.NumGoroutine") = false := by decide
theorem quietBoth (p : Pr) (s : Int) (hB : PB p) : ∃ b : Bool, Ev Try.prog X (.fn 64 [.ag (prR p), i64 s] (bl b) [.dead, .dead]) ∧ Ev Try.prog X (.fn 65 [.ag (prR p), i64 s] (bl b) [.dead, .dead]) := by
  by_cases h : PrOk p ∧ 0 ≤ s ∧ s < (p.secs.length : Int)
  · obtain ⟨hp, h0, h1⟩ := h
    obtain ⟨r, hr, -⟩ := hp.n
    exact ⟨_, specIsQuiet p s hB hp hr h0 h1, implIsQuiet p s hB hp hr h0 h1⟩
  · exact ⟨false, specIsQuietN p s hB h, implIsQuietN p s hB h⟩
theorem neqB (c : Bool) : Eng.binT .neq c c = some false := by cases c <;> rfl
set_option maxHeartbeats 40000000 in
theorem fnExactIsQuiet (p : Pr) (s : Int) (hq : PrQ p) : Ev Try.prog X (.fn 12 [.ag (prR p), i64 s] (bl true) [.dead, .dead]) := by
  obtain ⟨r, hS, hle, hPB⟩ := szProg (X := X) p 1048576 (by omega) (by omega) hq.l hq.s hq.a hq.b hq.e
  refine Ev.fnW (env := [(0, .ag (prR p)), (1, i64 s)]) Try.func12 rfl nm_laws_FnExactIsQuiet rfl rfl (by kernel_rfl) (.cons rfl (.cons rfl .nil)) ?_
  refine go3 ?_
  refine WO.call rfl rfl rfl hS rfl rfl ?_
  by_cases hr : r < 0
  · refine go3 ?_
    exact retV rfl rfl rfl rfl
  have hB := hPB (by omega)
  obtain ⟨ok, hs, hi⟩ := quietBoth (X := X) p s hB
  have cP := toProg (X := X) p hB
  have cE := eqProg (X := X) p hB
  clear hPB hS
  refine go3 ?_
  refine WO.call rfl rfl rfl cP rfl rfl ?_
  refine go3 ?_
  refine WO.hardPr (r := 15) rfl ?_
  refine WO.call rfl rfl rfl hs rfl rfl ?_
  refine go3 ?_
  refine WO.call rfl rfl rfl cP rfl rfl ?_
  refine go3 ?_
  refine WO.stG (vs := prO p) rfl rfl rfl (takeAgQ (r := 19) (p := []) (cs := prO p) rfl (whL_prO p) rfl) rfl rfl rfl rfl ?_
  refine go3 ?_
  refine WO.q rfl (QE.ldG rfl rfl rfl (L := prV 7 [] p) rfl) rfl rfl ?_
  refine go3 ?_
  refine WO.callF rfl (frzPr rfl rfl rfl rfl (.cons (.plain _ rfl) .nil)) hi rfl rfl rfl ?_
  refine go3 ?_
  refine WO.q rfl (QE.binT (c := false) (by kernel_rfl) rfl rfl (neqB ok)) rfl rfl ?_
  refine go3 ?_
  refine WC.regionDd ⟨[[], [], [1], [0, 1, 2], [0, 1, 2, 3]], [0, 1, 2, 4], [], [26, 27, 28, 30], [0, 1, 2, 3, 4], [([27, 28], [27, 28], false), ([26], [26], false), ([26], [26], false), ([], [], false), ([], [], false)]⟩ (by kernel_rfl) ?_
  refine WD.q rfl rfl rfl rfl rfl (QE.ldG rfl rfl rfl (L := prV 7 [] p) rfl) rfl rfl rfl ?_
  refine go3 ?_
  refine WD.q rfl rfl rfl rfl rfl (QE.call rfl rfl cP) rfl rfl rfl ?_
  refine go3 ?_
  refine WO.hardPr (r := 28) rfl ?_
  refine WO.callF rfl (frzPr rfl rfl rfl rfl (.ag (FrzL.plains rfl) .nil)) cE rfl rfl rfl ?_
  refine go3 ?_
  exact retV rfl rfl rfl rfl
theorem fnExactIsQuietW (p : Pr) (h : PrQ p) (s : Int) (hn : (Lit.int .i64 s).wf = true) : Ev Try.prog X (.fn 12 [.ag (prR p), i64 s] (bl true) [.dead, .dead]) := fnExactIsQuiet p s h
end Go.Eng.C
