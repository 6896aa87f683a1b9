/- The laws FnExactValueIn and FnExactPlainIn, walked by the engine. Printed by mk/mkvh.py. -/
import Derived.Test.YtbhdobjjhkkpkaaEngVg
import Derived.Test.YtbhdobjjhkkpkaaEngV6
import Derived.Test.YtbhdobjjhkkpkaaEngOq
namespace Go.Eng.C
open Go Go.Eng Go.RowKit Go.Proofs
set_option linter.unusedVariables false
set_option linter.unusedSimpArgs false
set_option maxRecDepth 10000
variable {X : FuncId → List AV → AV → List AV → Prop}
theorem nm_laws_FnExactValueIn : (Try.f4.name == "runtime.NumGoroutine") = false := by decide
theorem nm_laws_FnExactPlainIn : (Try.f3.name == "runtime.NumGoroutine") = false := by decide
theorem opRows : OpA Try.prog 27 (fun l : List (List Int) => [.im l.length (encL eRow l)]) (fun l => l.length ≤ 9223372036854775807 ∧ ∀ x ∈ l, x.length ≤ 9223372036854775807 ∧ ∀ y ∈ x, (Lit.int .i64 y).wf = true) := OpA.slice (f := eRow) Try.underlying27 (by kernel_rfl) opInts
theorem opEnv : OpA Try.prog 29 enR VsQ := OpA.as (OpA.struct Try.underlying29 (by kernel_rfl) (OpF.cons (sz := 1) (sz' := 1) rfl (by kernel_rfl) opInts rfl (OpF.one rfl (by kernel_rfl) opRows))) enR (fun p => (⟨p.1, p.2⟩ : Vs)) (fun _ => rfl) VsQ (fun _ h => ⟨h.1.1, h.2.1, fun l hl => (h.2.2 l hl).1⟩)
theorem hardL_eO' : ∀ (l : List (List Int)), hardL (encL (eO 2 1 eI) l) = encL eRow l
  | [] => rfl
  | x :: l => by
    rw [encL_cons, encL_cons]
    simp only [eO, eRow, List.cons_append, List.nil_append, hardL, Eng.hard, hardL_pl (encL_pl (f := eI) _), hardL_eO' l]
/-- Surroundings that a variable owns are only read by a call. -/
theorem frzEnG {env : Env} {r n1 n2 : Nat} {v : Vs} {zs ts : List AV} (e1 : v.vars.length = n1) (e2 : v.cells.length = n2) (h0 : getN [0] (look env r) = some (.ow 2 1 n1 (encL eI v.vars))) (h1 : getN [1] (look env r) = some (.ow 23 1 n2 (encL (eO 2 1 eI) v.cells))) (k : FrzL (look env) zs ts) : FrzL (look env) (.ag [.vw r [0] 0 n1, .vw r [1] 0 n2] :: zs) (.ag (enR v) :: ts) := by
  subst e1 e2
  refine .ag (.cons ?_ (.cons ?_ .nil)) k
  · have := Frz.vw (σ := look env) r 0 v.vars.length 2 1 v.vars.length [0] (encL eI v.vars) h0 (by rw [encL_length (f := eI) (sz := 1)]; omega)
    rwa [List.drop_zero, List.take_of_length_le (by rw [encL_length (f := eI) (sz := 1)]; exact Nat.le_refl _), hardL_pl (encL_pl (f := eI) _)] at this
  · have := Frz.vw (σ := look env) r 0 v.cells.length 23 1 v.cells.length [1] (encL (eO 2 1 eI) v.cells) h1 (by rw [encO_len]; omega)
    rwa [List.drop_zero, List.take_of_length_le (by rw [encO_len]; omega), hardL_eO'] at this
/-- Surroundings that a register owns are only read from now on. -/
theorem WO.hardEn {P : Program} {X : FuncId → List AV → AV → List AV → Prop} {all : Array Oper} {l : List Oper} {R : (Nat → AV) → Prop} {env : Env} {r : Nat} {v : Vs} (hr : look env r = .ag (enO v)) (k : WO P X all l (look ((r, .ag (enR v)) :: env)) R) : WO P X all l (look env) R := by
  have hd : ∀ (a : AV) (e : Env), look ((r, a) :: e) r = a := fun a e => by simp only [look, Nat.beq_refl, cond_true]
  refine WO.hard (r := r) (p := [0]) (x := ints v.vars) (y := .ag [.im v.vars.length (encL eI v.vars), .ow 23 1 v.cells.length (encL (eO 2 1 eI) v.cells)]) (by rw [hr]; rfl) rfl (by rw [hr]; simp only [Eng.hard, hardL_pl (encL_pl (f := eI) _)]; rfl) ?_
  refine WO.hard (r := r) (p := [1]) (x := .ow 23 1 v.cells.length (encL (eO 2 1 eI) v.cells)) (y := .ag (enR v)) (by rw [hd]; rfl) rfl (by rw [hd]; simp only [Eng.hard, hardL_eO']; rfl) ?_
  rw [look_dup]
  exact k
theorem bothValueIn (p : Pr) (v : Vs) (e : List Tm) (hB : PB p) (hV : VB v) (hE : e.length ≤ 1048576) : ∃ a b : Int, Ev Try.prog X (.fn 24 [.ag (prR p), .ag (enR v), .im e.length (encL tm e)] (.tu [i64 a, i64 b]) [.dead, .dead, .dead]) ∧ Ev Try.prog X (.fn 25 [.ag (prR p), .ag (enR v), .im e.length (encL tm e)] (.tu [i64 a, i64 b]) [.dead, .dead, .dead]) := by
  by_cases h : PrOk p ∧ EOk p v ∧ reckOk p e
  · exact ⟨_, _, specValueIn p v e h.1 hB h.2.1 h.2.2, implValueIn p v e h.1 hB h.2.1 h.2.2⟩
  · exact ⟨0, 0, specValueInN p v e hB hV hE h, implValueInN p v e hB hV hE h⟩
set_option maxHeartbeats 40000000 in
theorem fnExactValueIn (p : Pr) (v : Vs) (e : List Tm) (hq : PrQ p) (hqv : VsQ v) (hqe : e.length ≤ 9223372036854775807) : Ev Try.prog X (.fn 4 [.ag (prR p), .ag (enR v), .im e.length (encL tm e)] (bl true) [.dead, .dead, .dead]) := by
  obtain ⟨r, hS, hle, hPB⟩ := szProg (X := X) p 1048576 (by omega) (by omega) hq.l hq.s hq.a hq.b hq.e
  refine Ev.fnW (env := [(0, .ag (prR p)), (1, .ag (enR v)), (2, .im e.length (encL tm e))]) Try.func4 rfl nm_laws_FnExactValueIn rfl rfl (by kernel_rfl) (.cons rfl (.cons rfl (.cons rfl .nil))) ?_
  refine go3 ?_
  refine WO.call rfl rfl rfl hS rfl rfl ?_
  by_cases hr : r < 0
  · refine go3 ?_
    exact retV rfl rfl rfl rfl
  have hB := hPB (by omega)
  obtain ⟨r2, hS2, hle2, hVB⟩ := szEnv (X := X) v r (by omega) (by omega) hqv
  refine go3 ?_
  refine WO.call rfl rfl rfl hS2 rfl rfl ?_
  by_cases hr2 : r2 < 0
  · refine go3 ?_
    exact retV rfl rfl rfl rfl
  have hV := hVB (by omega)
  have hv1 := hV.v; have hv2 := hV.c
  have cS := szTermS (X := X) e.length (encL tm e) r2 (by omega) (by omega) hqe
  refine go3 ?_
  refine WO.call rfl rfl rfl cS rfl rfl ?_
  by_cases hr3 : r2 - e.length < 0
  · rw [if_pos hr3]
    refine go3 ?_
    exact retV rfl rfl rfl rfl
  rw [if_neg hr3]
  have hE : e.length ≤ 1048576 := by omega
  obtain ⟨a, b, hs, hi⟩ := bothValueIn (X := X) p v e hB hV hE
  have cP := toProg (X := X) p hB
  have cV := toEnv (X := X) v hV
  have cT := toTermS (X := X) e (by omega)
  have cE := eqProg (X := X) p hB
  have cF := eqEnv (X := X) v (by omega) (by omega) hV.r4
  have cG := eqTermS (X := X) e e (by omega) (r := true) (by simp)
  clear hPB hS hVB hS2 cS
  refine go3 ?_
  refine WC.keep (e' := [(2, .im e.length (encL tm e)), (3, .op (prR p)), (4, .op (enR v))]) (.cons rfl (.cons rfl (.cons rfl .nil))) ?_
  refine WC.regionDd ⟨[[], [0], [], [0, 1, 2], [], [0, 1, 2, 3, 4], [0, 1, 2, 3, 4, 5], [0, 1, 2, 3, 4, 5, 6], [0, 1, 2, 3, 4, 5, 6, 7], [0, 1, 2, 3, 4, 5, 6, 7], [0, 1, 2, 3, 4, 5, 6, 7, 8], [0, 1, 2, 3, 4, 5, 6, 7, 8, 9, 10]], [0, 1, 2, 3, 4, 7, 8, 9, 10], [], [31, 32, 33, 34, 35, 30, 38, 39, 8], [0, 1, 2, 3, 4, 5, 6, 7, 8, 9, 10, 11], [([33, 35], [33, 35], false), ([33, 35], [33, 35], false), ([31, 32, 35], [31, 32, 35], false), ([35], [35], false), ([31, 32, 33, 34], [31, 32, 33, 34], false), ([], [], false), ([], [], false), ([], [], false), ([39], [39], false), ([38, 8], [38, 8], false), ([39], [39], false), ([], [], false)]⟩ (by kernel_rfl) ?_
  refine go3 ?_
  refine WD.q rfl rfl rfl rfl rfl (QE.call rfl rfl cP) rfl rfl rfl ?_
  refine go3 ?_
  refine WD.q rfl rfl rfl rfl rfl (QE.call rfl rfl cV) rfl rfl rfl ?_
  refine go3 ?_
  refine WO.call rfl rfl rfl cT rfl rfl ?_
  refine go3 ?_
  refine WO.hardPr (r := 32) rfl ?_
  refine WO.hardEn (r := 34) rfl ?_
  refine WO.callF rfl (.ag (FrzL.plains rfl) (.ag (FrzL.plains rfl) (.cons (frz1 rfl rfl) .nil))) hs rfl rfl rfl ?_
  refine go3 ?_
  refine WO.keep (e' := [(2, .im e.length (encL tm e)), (3, .op (prR p)), (4, .op (enR v)), (40, .ag (prR p)), (8, i64 a), (9, i64 b)]) (.cons rfl (.cons rfl (.cons rfl (.cons rfl (.cons rfl (.cons rfl .nil)))))) ?_
  refine WO.call rfl rfl rfl cP rfl rfl ?_
  refine go3 ?_
  refine WO.stG (vs := prO p) rfl rfl rfl (takeAgQ (r := 41) (p := []) (cs := prO p) rfl (whL_prO p) rfl) rfl rfl rfl rfl ?_
  refine go3 ?_
  refine WO.call rfl rfl rfl cV rfl rfl ?_
  refine go3 ?_
  refine WO.stG (vs := enO v) rfl rfl rfl (takeAgQ (r := 43) (p := []) (cs := enO v) rfl (whL_enO v) rfl) rfl rfl rfl rfl ?_
  refine go3 ?_
  refine WO.call rfl rfl rfl cT rfl rfl ?_
  refine go3 ?_
  refine WO.q rfl (QE.ldG rfl rfl rfl (L := prV 10 [] p) rfl) rfl rfl ?_
  refine go3 ?_
  refine WO.q rfl (QE.ldG rfl rfl rfl (L := [.vw 11 [0] 0 v.vars.length, .vw 11 [1] 0 v.cells.length]) rfl) rfl rfl ?_
  refine go3 ?_
  refine WO.callF rfl (frzPr rfl rfl rfl rfl (frzEnG rfl rfl rfl rfl (.cons (frz1 rfl rfl) .nil))) hi rfl rfl rfl ?_
  refine go3 ?_
  refine WC.keep (e' := [(2, .im e.length (encL tm e)), (3, .op (prR p)), (4, .op (enR v)), (10, .op (prO p)), (11, .op (enO v)), (12, .ow 93 2 e.length (encL tm e))]) (.cons rfl (.cons rfl (.cons rfl (.cons rfl (.cons rfl (.cons rfl .nil)))))) ?_
  refine WC.regionDd ⟨[[], [], [1], [0, 1, 2], [0, 1, 2, 3]], [0, 1, 2, 4], [], [61, 62, 63, 65], [0, 1, 2, 3, 4], [([62, 63], [62, 63], false), ([61], [61], false), ([61], [61], false), ([], [], false), ([], [], false)]⟩ (by kernel_rfl) ?_
  refine WD.q rfl rfl rfl rfl rfl (QE.ldG rfl rfl rfl (L := prV 10 [] p) rfl) rfl rfl rfl ?_
  refine go3 ?_
  refine WD.q rfl rfl rfl rfl rfl (QE.call rfl rfl cP) rfl rfl rfl ?_
  refine go3 ?_
  refine WO.hardPr (r := 63) rfl ?_
  refine WO.callF rfl (frzPr rfl rfl rfl rfl (.ag (FrzL.plains rfl) .nil)) cE rfl rfl rfl ?_
  refine go3 ?_
  refine WC.regionDd ⟨[[], [], [1], [0, 1, 2], [0, 1, 2, 3]], [0, 1, 2, 4], [], [66, 67, 68, 70], [0, 1, 2, 3, 4], [([67, 68], [67, 68], false), ([66], [66], false), ([66], [66], false), ([], [], false), ([], [], false)]⟩ (by kernel_rfl) ?_
  refine WD.q rfl rfl rfl rfl rfl (QE.ldG rfl rfl rfl (L := [.vw 11 [0] 0 v.vars.length, .vw 11 [1] 0 v.cells.length]) rfl) rfl rfl rfl ?_
  refine go3 ?_
  refine WD.q rfl rfl rfl rfl rfl (QE.call rfl rfl cV) rfl rfl rfl ?_
  refine go3 ?_
  refine WO.hardEn (r := 68) rfl ?_
  refine WO.callF rfl (frzEnG rfl rfl rfl rfl (.ag (FrzL.plains rfl) .nil)) cF rfl rfl rfl ?_
  refine go3 ?_
  refine WO.call rfl rfl rfl cT rfl rfl ?_
  refine go3 ?_
  refine WO.callF rfl (.cons (frz1 rfl rfl) (.cons (frz1 rfl rfl) .nil)) cG rfl rfl rfl ?_
  refine go3 ?_
  exact retV rfl rfl rfl rfl
theorem fnExactValueInW (p : Pr) (h : PrQ p) (v : Vs) (hv : VsQ v) (e : List Tm) (he : e.length ≤ 9223372036854775807 ∧ ∀ x ∈ e, True) : Ev Try.prog X (.fn 4 [.ag (prR p), .ag (enR v), .im e.length (encL tm e)] (bl true) [.dead, .dead, .dead]) := fnExactValueIn p v e h hv he.1
theorem bothPlainIn (p : Pr) (v : Vs) (e : List Tm) (hB : PB p) (hV : VB v) (hE : e.length ≤ 1048576) : ∃ a : Int, Ev Try.prog X (.fn 16 [.ag (prR p), .ag (enR v), .im e.length (encL tm e)] (i64 a) [.dead, .dead, .dead]) ∧ Ev Try.prog X (.fn 20 [.ag (prR p), .ag (enR v), .im e.length (encL tm e)] (i64 a) [.dead, .dead, .dead]) := by
  by_cases h : PrOk p ∧ EOk p v ∧ reckOk p e
  · exact ⟨_, specPlainIn p v e h.1 hB h.2.1 h.2.2, implPlainIn p v e h.1 hB h.2.1 h.2.2⟩
  · exact ⟨0, specPlainInN p v e hB hV hE h, implPlainInN p v e hB hV hE h⟩
set_option maxHeartbeats 40000000 in
theorem fnExactPlainIn (p : Pr) (v : Vs) (e : List Tm) (hq : PrQ p) (hqv : VsQ v) (hqe : e.length ≤ 9223372036854775807) : Ev Try.prog X (.fn 3 [.ag (prR p), .ag (enR v), .im e.length (encL tm e)] (bl true) [.dead, .dead, .dead]) := by
  obtain ⟨r, hS, hle, hPB⟩ := szProg (X := X) p 1048576 (by omega) (by omega) hq.l hq.s hq.a hq.b hq.e
  refine Ev.fnW (env := [(0, .ag (prR p)), (1, .ag (enR v)), (2, .im e.length (encL tm e))]) Try.func3 rfl nm_laws_FnExactPlainIn rfl rfl (by kernel_rfl) (.cons rfl (.cons rfl (.cons rfl .nil))) ?_
  refine go3 ?_
  refine WO.call rfl rfl rfl hS rfl rfl ?_
  by_cases hr : r < 0
  · refine go3 ?_
    exact retV rfl rfl rfl rfl
  have hB := hPB (by omega)
  obtain ⟨r2, hS2, hle2, hVB⟩ := szEnv (X := X) v r (by omega) (by omega) hqv
  refine go3 ?_
  refine WO.call rfl rfl rfl hS2 rfl rfl ?_
  by_cases hr2 : r2 < 0
  · refine go3 ?_
    exact retV rfl rfl rfl rfl
  have hV := hVB (by omega)
  have hv1 := hV.v; have hv2 := hV.c
  have cS := szTermS (X := X) e.length (encL tm e) r2 (by omega) (by omega) hqe
  refine go3 ?_
  refine WO.call rfl rfl rfl cS rfl rfl ?_
  by_cases hr3 : r2 - e.length < 0
  · rw [if_pos hr3]
    refine go3 ?_
    exact retV rfl rfl rfl rfl
  rw [if_neg hr3]
  have hE : e.length ≤ 1048576 := by omega
  obtain ⟨a, hs, hi⟩ := bothPlainIn (X := X) p v e hB hV hE
  have cP := toProg (X := X) p hB
  have cV := toEnv (X := X) v hV
  have cT := toTermS (X := X) e (by omega)
  have cE := eqProg (X := X) p hB
  have cF := eqEnv (X := X) v (by omega) (by omega) hV.r4
  have cG := eqTermS (X := X) e e (by omega) (r := true) (by simp)
  clear hPB hS hVB hS2 cS
  refine go3 ?_
  refine WC.keep (e' := [(2, .im e.length (encL tm e)), (3, .op (prR p)), (4, .op (enR v))]) (.cons rfl (.cons rfl (.cons rfl .nil))) ?_
  refine WC.regionDd ⟨[[], [0], [], [0, 1, 2], [], [0, 1, 2, 3, 4], [0, 1, 2, 3, 4, 5], [0, 1, 2, 3, 4, 5, 6]], [0, 1, 2, 3, 4], [], [28, 29, 30, 31, 32], [0, 1, 2, 3, 4, 5, 6, 7], [([30, 32], [30, 32], false), ([30, 32], [30, 32], false), ([28, 29, 32], [28, 29, 32], false), ([32], [32], false), ([28, 29, 30, 31], [28, 29, 30, 31], false), ([], [], false), ([], [], false), ([], [], false)]⟩ (by kernel_rfl) ?_
  refine go3 ?_
  refine WD.q rfl rfl rfl rfl rfl (QE.call rfl rfl cP) rfl rfl rfl ?_
  refine go3 ?_
  refine WD.q rfl rfl rfl rfl rfl (QE.call rfl rfl cV) rfl rfl rfl ?_
  refine go3 ?_
  refine WO.call rfl rfl rfl cT rfl rfl ?_
  refine go3 ?_
  refine WO.hardPr (r := 29) rfl ?_
  refine WO.hardEn (r := 31) rfl ?_
  refine WO.callF rfl (.ag (FrzL.plains rfl) (.ag (FrzL.plains rfl) (.cons (frz1 rfl rfl) .nil))) hs rfl rfl rfl ?_
  refine go3 ?_
  refine WO.keep (e' := [(2, .im e.length (encL tm e)), (3, .op (prR p)), (4, .op (enR v)), (35, .ag (prR p)), (8, i64 a)]) (.cons rfl (.cons rfl (.cons rfl (.cons rfl (.cons rfl .nil))))) ?_
  refine WO.call rfl rfl rfl cP rfl rfl ?_
  refine go3 ?_
  refine WO.stG (vs := prO p) rfl rfl rfl (takeAgQ (r := 36) (p := []) (cs := prO p) rfl (whL_prO p) rfl) rfl rfl rfl rfl ?_
  refine go3 ?_
  refine WO.call rfl rfl rfl cV rfl rfl ?_
  refine go3 ?_
  refine WO.stG (vs := enO v) rfl rfl rfl (takeAgQ (r := 38) (p := []) (cs := enO v) rfl (whL_enO v) rfl) rfl rfl rfl rfl ?_
  refine go3 ?_
  refine WO.call rfl rfl rfl cT rfl rfl ?_
  refine go3 ?_
  refine WO.q rfl (QE.ldG rfl rfl rfl (L := prV 9 [] p) rfl) rfl rfl ?_
  refine go3 ?_
  refine WO.q rfl (QE.ldG rfl rfl rfl (L := [.vw 10 [0] 0 v.vars.length, .vw 10 [1] 0 v.cells.length]) rfl) rfl rfl ?_
  refine go3 ?_
  refine WO.callF rfl (frzPr rfl rfl rfl rfl (frzEnG rfl rfl rfl rfl (.cons (frz1 rfl rfl) .nil))) hi rfl rfl rfl ?_
  refine go3 ?_
  refine WC.keep (e' := [(2, .im e.length (encL tm e)), (3, .op (prR p)), (4, .op (enR v)), (9, .op (prO p)), (10, .op (enO v)), (11, .ow 93 2 e.length (encL tm e))]) (.cons rfl (.cons rfl (.cons rfl (.cons rfl (.cons rfl (.cons rfl .nil)))))) ?_
  refine WC.regionDd ⟨[[], [], [1], [0, 1, 2], [0, 1, 2, 3]], [0, 1, 2, 4], [], [48, 49, 50, 52], [0, 1, 2, 3, 4], [([49, 50], [49, 50], false), ([48], [48], false), ([48], [48], false), ([], [], false), ([], [], false)]⟩ (by kernel_rfl) ?_
  refine WD.q rfl rfl rfl rfl rfl (QE.ldG rfl rfl rfl (L := prV 9 [] p) rfl) rfl rfl rfl ?_
  refine go3 ?_
  refine WD.q rfl rfl rfl rfl rfl (QE.call rfl rfl cP) rfl rfl rfl ?_
  refine go3 ?_
  refine WO.hardPr (r := 50) rfl ?_
  refine WO.callF rfl (frzPr rfl rfl rfl rfl (.ag (FrzL.plains rfl) .nil)) cE rfl rfl rfl ?_
  refine go3 ?_
  refine WC.regionDd ⟨[[], [], [1], [0, 1, 2], [0, 1, 2, 3]], [0, 1, 2, 4], [], [53, 54, 55, 57], [0, 1, 2, 3, 4], [([54, 55], [54, 55], false), ([53], [53], false), ([53], [53], false), ([], [], false), ([], [], false)]⟩ (by kernel_rfl) ?_
  refine WD.q rfl rfl rfl rfl rfl (QE.ldG rfl rfl rfl (L := [.vw 10 [0] 0 v.vars.length, .vw 10 [1] 0 v.cells.length]) rfl) rfl rfl rfl ?_
  refine go3 ?_
  refine WD.q rfl rfl rfl rfl rfl (QE.call rfl rfl cV) rfl rfl rfl ?_
  refine go3 ?_
  refine WO.hardEn (r := 55) rfl ?_
  refine WO.callF rfl (frzEnG rfl rfl rfl rfl (.ag (FrzL.plains rfl) .nil)) cF rfl rfl rfl ?_
  refine go3 ?_
  refine WO.call rfl rfl rfl cT rfl rfl ?_
  refine go3 ?_
  refine WO.callF rfl (.cons (frz1 rfl rfl) (.cons (frz1 rfl rfl) .nil)) cG rfl rfl rfl ?_
  refine go3 ?_
  exact retV rfl rfl rfl rfl
theorem fnExactPlainInW (p : Pr) (h : PrQ p) (v : Vs) (hv : VsQ v) (e : List Tm) (he : e.length ≤ 9223372036854775807 ∧ ∀ x ∈ e, True) : Ev Try.prog X (.fn 3 [.ag (prR p), .ag (enR v), .im e.length (encL tm e)] (bl true) [.dead, .dead, .dead]) := fnExactPlainIn p v e h hv he.1
end Go.Eng.C
