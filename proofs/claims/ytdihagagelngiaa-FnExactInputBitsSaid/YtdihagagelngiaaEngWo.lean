/- The law FnExactInputBits, walked by the engine. -/
import Derived.Test.YtdihagagelngiaaEngWm
import Derived.Test.YtdihagagelngiaaEngWn
namespace Go.Eng.C
open Go Go.Eng Go.RowKit Go.Proofs
set_option linter.unusedVariables false
set_option linter.unusedSimpArgs false
set_option maxRecDepth 10000
variable {X : FuncId → List AV → AV → List AV → Prop}
theorem nm_laws_FnExactInputBits : (Try.f11.name == "runtime.NumGoroutine") = false := by decide
/-- Truth values, or nil. -/
def BsA (X : FuncId → List AV → AV → List AV → Prop) (f : FuncId) (args fin : List AV) (u : List Bool) : Prop :=
  Ev Try.prog X (.fn f args (bools u) fin) ∨ (u = [] ∧ Ev Try.prog X (.fn f args .nl fin))
theorem WO.callBs {all : Array Oper} {l : List Oper} {R : (Nat → AV) → Prop} {g : Option (Nat × Bool)} {env : Env} {d : Nat} {ty : TypeId} {pos : String} {af : Array Edge} {fn : FuncId} {xs : Array Operand} {ts : Array TypeId} {args fin : List AV} {u : List Bool} (hg : gg all (look env) g = some true) (ha : FrzL (look env) (xs.toList.map (ov (look env))) args) (hf : BsA X fn args fin u) (hn : nrE d env = true) (k : WO Try.prog X all l (look ((d, bools u) :: env)) R) : WO Try.prog X all (⟨some d, .call { callee := .value (.func fn), args := xs, argTypes := ts }, ty, pos, af, g⟩ :: l) (look env) R := by
  rcases hf with hf | ⟨rfl, hf⟩
  · exact WO.callF hg ha hf (by simp only [noIm, noIm_eB]) hn rfl k
  · refine WO.callF hg ha hf rfl hn rfl ?_
    refine WO.castO (r := d) (e := 4) (sz := 1) (by decide) (by simp only [look, Nat.beq_refl, cond_true]) ?_
    rw [look_dup]
    exact k
theorem bitsBoth (p : Pr) (a b : List Int) (hB : PB p) (ha : a.length ≤ 1048576) (hb : b.length ≤ 1048576) : ∃ u : List Bool, u.length ≤ 1048576 ∧ Ev Try.prog X (.fn 60 [.ag (prR p), .im a.length (encL eI a), .im b.length (encL eI b)] (bools u) [.dead, .dead, .dead]) ∧ BsA X 27 [.ag (prR p), .im a.length (encL eI a), .im b.length (encL eI b)] [.dead, .dead, .dead] u := by
  by_cases h : StOk p a b
  · have hin := h.2.1.app h.2.2
    have hsum := bitsL_len hin
    have hsb := (CB.of h.1.i h.1.w8).b
    exact ⟨bitsL (p.lows ++ p.secs) (a ++ b), by omega, specInputBits p a b hB h, .inl (implInputBits p a b hB h)⟩
  · exact ⟨[], by simp, specInputBitsN p a b hB (by omega) (by omega) h, .inr ⟨rfl, implInputBitsN p a b hB (by omega) (by omega) h⟩⟩
set_option maxHeartbeats 40000000 in
theorem fnExactInputBits (p : Pr) (a b : List Int) (hq : PrQ p) : Ev Try.prog X (.fn 11 [.ag (prR p), .im a.length (encL eI a), .im b.length (encL eI b)] (bl true) [.dead, .dead, .dead]) := by
  obtain ⟨r, hS, hle, hPB⟩ := szProg (X := X) p 1048576 (by omega) (by omega) hq.l hq.s hq.a hq.b hq.e
  refine Ev.fnW (env := [(0, .ag (prR p)), (1, .im a.length (encL eI a)), (2, .im b.length (encL eI b))]) Try.func11 rfl nm_laws_FnExactInputBits rfl rfl (by kernel_rfl) (.cons rfl (.cons rfl (.cons rfl .nil))) ?_
  refine go3 ?_
  refine WO.cmp rfl rfl rfl rfl rfl (fun ha => ?_) (fun ha => ?_)
  · refine go3 ?_
    exact retV rfl rfl rfl rfl
  refine go3 ?_
  refine WO.cmp rfl rfl rfl rfl rfl (fun hb => ?_) (fun hb => ?_)
  · refine go3 ?_
    exact retV rfl rfl rfl rfl
  refine go3 ?_
  refine WO.call rfl rfl rfl hS rfl rfl ?_
  by_cases hr : r < 0
  · refine go3 ?_
    exact retV rfl rfl rfl rfl
  have hB := hPB (by omega)
  obtain ⟨u, hu, hs, hi⟩ := bitsBoth (X := X) p a b hB (by omega) (by omega)
  have cV := markBoolS (X := X) u 1 (by omega) (by omega)
  have cH := heldBoolS (X := X) u 1 (by omega) (by omega)
  have cQ := eqBoolS (X := X) u hu
  have hm0 : 0 ≤ 1 + (u.length : Int) ∧ 1 + (u.length : Int) ≤ 4611686018427387904 := by omega
  obtain ⟨m, hm⟩ : ∃ m, m = 1 + (u.length : Int) := ⟨_, rfl⟩
  rw [← hm] at cV cH hm0
  have cP := toProg (X := X) p hB
  have cE := eqProg (X := X) p hB
  have cA := toInt64S (X := X) a (by omega)
  have cC := toInt64S (X := X) b (by omega)
  have hk0 := mkS_nn p.body
  have hk1 := mkS_le hB.e
  have cM := markProg (X := X) p 1 hB (by omega) (by omega)
  have hb1 := hB.l; have hb2 := hB.s; have hb3 := hB.a; have hb4 := hB.b
  obtain ⟨M, hM⟩ : ∃ M : Int, M = 1 + 2 * p.lows.length + 2 * p.secs.length + p.arrs.length + mkS p.body := ⟨_, rfl⟩
  rw [← hM] at cM
  have hM0 : 0 ≤ M ∧ M ≤ 1099511627776000 := by omega
  clear hPB hS hM hk0 hk1 hb1 hb2 hb3 hb4 hm
  refine go3 ?_
  refine WO.call rfl rfl rfl cP rfl rfl ?_
  refine go3 ?_
  refine WO.call rfl rfl rfl cA rfl rfl ?_
  refine go3 ?_
  refine WO.call rfl rfl rfl cC rfl rfl ?_
  refine WO.hardPr (r := 29) rfl ?_
  refine WO.callF rfl (.ag (FrzL.plains rfl) (.cons (frz1 rfl rfl) (.cons (frz1 rfl rfl) .nil))) hs (by simp only [noIm, noIm_eB]) rfl rfl ?_
  refine WO.hard (r := 34) (p := []) (x := bools u) (y := .im u.length (encL eB u)) rfl rfl (by simp only [setN, Eng.hard, hardL_pl (encL_pl (f := eB) _)]) ?_
  refine WO.keep (e' := [(1, .im a.length (encL eI a)), (2, .im b.length (encL eI b)), (3, .op (prR p)), (34, .im u.length (encL eB u))]) (.cons rfl (.cons rfl (.cons rfl (.cons rfl .nil)))) ?_
  refine go3 ?_
  refine WO.call rfl rfl rfl cP rfl rfl ?_
  refine go3 ?_
  refine WO.stG (vs := prO p) rfl rfl rfl (takeAgQ (r := 36) (p := []) (cs := prO p) rfl (whL_prO p) rfl) rfl rfl rfl rfl ?_
  refine go3 ?_
  refine WO.call rfl rfl rfl cA rfl rfl ?_
  refine go3 ?_
  refine WO.call rfl rfl rfl cC rfl rfl ?_
  refine go3 ?_
  refine WO.q rfl (QE.ldG rfl rfl rfl (L := prV 9 [] p) rfl) rfl rfl ?_
  refine go3 ?_
  refine WO.callBs (u := u) rfl (frzPr rfl rfl rfl rfl (.cons (frz1 rfl rfl) (.cons (frz1 rfl rfl) .nil))) hi rfl ?_
  refine WO.keep (e' := [(1, .im a.length (encL eI a)), (2, .im b.length (encL eI b)), (3, .op (prR p)), (8, .im u.length (encL eB u)), (9, .op (prO p)), (10, ints a), (11, ints b), (44, bools u)]) (.cons rfl (.cons rfl (.cons rfl (.cons rfl (.cons rfl (.cons rfl (.cons rfl (.cons rfl .nil)))))))) ?_
  refine go3 ?_
  refine WO.callF rfl (.cons (frz1 rfl rfl) (.cons (.plain _ rfl) .nil)) cQ rfl rfl rfl ?_
  refine go3 ?_
  refine WC.keep (e' := [(1, .im a.length (encL eI a)), (2, .im b.length (encL eI b)), (3, .op (prR p)), (8, .im u.length (encL eB u)), (9, .op (prO p)), (10, ints a), (11, ints b), (12, bools u)]) (.cons rfl (.cons rfl (.cons rfl (.cons rfl (.cons rfl (.cons rfl (.cons rfl (.cons rfl .nil)))))))) ?_
  refine WC.regionDd ⟨[[], [], [1], [0, 1, 2], [0, 1, 2, 3]], [0, 1, 2, 4], [], [49, 50, 51, 53], [0, 1, 2, 3, 4], [([50, 51], [50, 51], false), ([49], [49], false), ([49], [49], false), ([], [], false), ([], [], false)]⟩ (by kernel_rfl) ?_
  refine WD.q rfl rfl rfl rfl rfl (QE.ldG rfl rfl rfl (L := prV 9 [] p) rfl) rfl rfl rfl ?_
  refine go3 ?_
  refine WD.q rfl rfl rfl rfl rfl (QE.call rfl rfl cP) rfl rfl rfl ?_
  refine go3 ?_
  refine WO.hardPr (r := 51) rfl ?_
  refine WO.callF rfl (frzPr rfl rfl rfl rfl (.ag (FrzL.plains rfl) .nil)) cE rfl rfl rfl ?_
  refine go3 ?_
  refine WO.call rfl rfl rfl cA rfl rfl ?_
  refine WO.callF rfl (.cons (frz1 rfl rfl) (.cons (frz1 rfl rfl) .nil)) (eqInt64S a a (by omega) (r := true) (by simp)) rfl rfl rfl ?_
  refine go3 ?_
  refine WO.call rfl rfl rfl cC rfl rfl ?_
  refine WO.callF rfl (.cons (frz1 rfl rfl) (.cons (frz1 rfl rfl) .nil)) (eqInt64S b b (by omega) (r := true) (by simp)) rfl rfl rfl ?_
  refine go3 ?_
  refine WO.keep (e' := [(1, .im a.length (encL eI a)), (2, .im b.length (encL eI b)), (3, .op (prR p)), (8, .im u.length (encL eB u)), (9, .op (prO p)), (10, ints a), (11, ints b), (12, bools u), (13, i64 1)]) (.cons rfl (.cons rfl (.cons rfl (.cons rfl (.cons rfl (.cons rfl (.cons rfl (.cons rfl (.cons rfl .nil))))))))) ?_
  refine WO.q rfl (QE.ldG rfl rfl rfl (L := prV 9 [] p) rfl) rfl rfl ?_
  refine go3 ?_
  refine WO.callG (xs := [.tmp 65]) rfl rfl (takeFpr rfl) rfl rfl cM rfl (noIm_prM p 1) rfl rfl rfl rfl ?_
  refine go3 ?_
  refine WO.callR (xs := [.tmp 68]) rfl rfl rfl (encL_length _) rfl rfl (markInt64S a M (by omega) (by omega)) rfl (by simp only [noIm, noIm_eI]) rfl rfl rfl rfl ?_
  refine go3 ?_
  refine WO.callR (xs := [.tmp 71]) rfl rfl rfl (encL_length _) rfl rfl (markInt64S b (M + a.length) (by omega) (by omega)) rfl (by simp only [noIm, noIm_eI]) rfl rfl rfl rfl ?_
  refine go3 ?_
  refine WO.callF rfl (.cons (frz1 rfl rfl) (.cons (.plain _ rfl) .nil)) cQ rfl rfl rfl ?_
  refine go3 ?_
  refine WO.keep (e' := [(1, .im a.length (encL eI a)), (2, .im b.length (encL eI b)), (3, .op (prR p)), (8, .im u.length (encL eB u)), (12, bools u), (14, i64 1), (81, .vw 12 [] 0 u.length), (82, i64 1)]) (.cons rfl (.cons rfl (.cons rfl (.cons rfl (.cons rfl (.cons rfl (.cons rfl (.cons rfl .nil)))))))) ?_
  refine WO.callR (xs := [.tmp 82]) rfl rfl rfl (encL_length _) rfl rfl cV rfl (by simp only [noIm, noIm_eB]) rfl rfl rfl rfl ?_
  refine go3 ?_
  refine WO.callF rfl (.cons (frz1 rfl (markT_len _ _)) (.cons (.plain _ rfl) .nil)) cH rfl rfl rfl ?_
  refine go3 ?_
  refine WO.keep (e' := [(1, .im a.length (encL eI a)), (2, .im b.length (encL eI b)), (8, .im u.length (encL eB u)), (12, .ow 4 1 u.length (encL eB (markT u 1))), (14, i64 m), (92, .ag (prR p))]) (.cons rfl (.cons rfl (.cons rfl (.cons rfl (.cons rfl (.cons rfl .nil)))))) ?_
  refine WO.call rfl rfl rfl cP rfl rfl ?_
  refine WO.hardPr (r := 93) rfl ?_
  refine go3 ?_
  refine WO.call rfl rfl rfl cA rfl rfl ?_
  refine go3 ?_
  refine WO.call rfl rfl rfl cC rfl rfl ?_
  refine WO.callBs (u := u) rfl (.ag (FrzL.plains rfl) (.cons (frz1 rfl rfl) (.cons (frz1 rfl rfl) .nil))) hi rfl ?_
  refine WO.keep (e' := [(8, .im u.length (encL eB u)), (12, .ow 4 1 u.length (encL eB (markT u 1))), (14, i64 m), (98, bools u)]) (.cons rfl (.cons rfl (.cons rfl (.cons rfl .nil)))) ?_
  refine go3 ?_
  refine WO.callF rfl (.cons (frz1 rfl rfl) (.cons (.plain _ rfl) .nil)) cQ rfl rfl rfl ?_
  refine go3 ?_
  refine WO.callF rfl (.cons (frz1 rfl (markT_len _ _)) (.cons (.plain _ rfl) .nil)) cH rfl rfl rfl ?_
  refine go3 ?_
  exact retV rfl rfl rfl rfl
theorem fnExactInputBitsW (p : Pr) (h : PrQ p) (a : List Int) (ha : a.length ≤ 9223372036854775807 ∧ ∀ x ∈ a, (Lit.int .i64 x).wf = true) (b : List Int) (hb : b.length ≤ 9223372036854775807 ∧ ∀ x ∈ b, (Lit.int .i64 x).wf = true) : Ev Try.prog X (.fn 11 [.ag (prR p), .im a.length (encL eI a), .im b.length (encL eI b)] (bl true) [.dead, .dead, .dead]) := fnExactInputBits p a b h
end Go.Eng.C
