/- The law FnExactFlowOf, walked by the engine: flows compared, marked, held. -/
import Derived.Test.YtbhdobjjhkkpkaaEngFg
import Derived.Test.YtbhdobjjhkkpkaaEngV8
import Derived.Test.YtbhdobjjhkkpkaaEngOq
namespace Go.Eng.C
open Go Go.Eng Go.RowKit Go.Proofs
set_option linter.unusedVariables false
set_option linter.unusedSimpArgs false
set_option maxRecDepth 10000
variable {X : FuncId → List AV → AV → List AV → Prop}
theorem nm_laws_FnExactFlowOf : (Try.f5.name == "runtime.NumGoroutine") = false := by decide
theorem nm_laws_eqFlow : (Try.f28.name == "runtime.NumGoroutine") = false := by decide
theorem nm_laws_markFlow : (Try.f30.name == "runtime.NumGoroutine") = false := by decide
theorem nm_laws_heldFlow : (Try.f31.name == "runtime.NumGoroutine") = false := by decide
theorem eqFlow (f : Fl) (h1 : f.vars.length ≤ 4194304) (h2 : f.arrs.length ≤ 4194304) : Ev Try.prog X (.fn 28 [.ag (flR f), .ag (flR f)] (bl true) [.dead, .dead]) := by
  refine Ev.fnW (env := [(0, .ag (flR f)), (1, .ag (flR f))]) Try.func28 rfl nm_laws_eqFlow rfl rfl (by kernel_rfl) (.cons rfl (.cons rfl .nil)) ?_
  refine go3 ?_
  refine WO.call rfl rfl rfl (eqInt64S f.vars f.vars (by omega) (r := true) (by simp)) rfl rfl ?_
  refine go3 ?_
  refine WO.call rfl rfl rfl (eqInt64S f.arrs f.arrs (by omega) (r := true) (by simp)) rfl rfl ?_
  refine go3 ?_
  exact retV rfl rfl rfl rfl
/-- A flow marked from m on. -/
def mkF (f : Fl) (m : Int) : Fl := ⟨markI f.vars m, markI f.arrs (m + f.vars.length), f.esc, f.lk⟩
theorem heldFlow (f : Fl) (m : Int) (h0 : 0 ≤ m) (hb : m + f.vars.length + f.arrs.length ≤ 4611686018427387904) : Ev Try.prog X (.fn 31 [.ag (flR (mkF f m)), i64 m] (i64 (m + f.vars.length + f.arrs.length)) [.dead, .dead]) := by
  refine Ev.fnW (env := [(0, .ag (flR (mkF f m))), (1, i64 m)]) Try.func31 rfl nm_laws_heldFlow rfl rfl (by kernel_rfl) (.cons rfl (.cons rfl .nil)) ?_
  refine go3 ?_
  refine WO.call rfl rfl rfl (heldInt64S f.vars m h0 (by omega)) rfl rfl ?_
  refine go3 ?_
  refine WO.call rfl rfl rfl (heldInt64S f.arrs (m + f.vars.length) (by omega) (by omega)) rfl rfl ?_
  refine go3 ?_
  exact retV rfl rfl rfl rfl
/-- A flow, owned, marked from m on. -/
def flM (f : Fl) (m : Int) : List AV := [.ow 2 1 f.vars.length (encL eI (markI f.vars m)), .ow 2 1 f.arrs.length (encL eI (markI f.arrs (m + f.vars.length))), i64 f.esc, i64 f.lk]
theorem whL_flM (f : Fl) (m : Int) : whL (flM f m) = true := by simp [flM, whL, whA, encL_len1, markI_len]
theorem noIm_flM (f : Fl) (m : Int) : noIm (.ag (flM f m)) = true := by simp only [flM, noIm, noImL, noIm_eI, Bool.and_self]
theorem markFlow (f : Fl) (m : Int) (h0 : 0 ≤ m) (hb : m + f.vars.length + f.arrs.length ≤ 4611686018427387904) : Ev Try.prog X (.fn 30 [.ag (flO f), i64 m] (i64 (m + f.vars.length + f.arrs.length)) [.ag (flM f m), i64 m]) := by
  have c1 := markInt64S (X := X) f.vars m h0 (by omega)
  have c2 := markInt64S (X := X) f.arrs (m + f.vars.length) (by omega) (by omega)
  refine Ev.fnT' (env := [(0, .ag (refL 1000000 [] 0 (flO f))), (1, i64 m), (1000000, .ag (flO f)), (1000001, i64 m)]) Try.func30 rfl nm_laws_markFlow rfl rfl (by kernel_rfl) (.cons rfl (.cons rfl (.cons rfl (.cons rfl .nil)))) ?_
  refine go3 ?_
  refine WO.boxH (r := 1000000) (bs := flO f) (cs := flO f) (hs := [.vw 2 [0] 0 f.vars.length, .vw 2 [1] 0 f.arrs.length, i64 f.esc, i64 f.lk]) rfl rfl rfl rfl (.vw (.vw (.pl rfl (.pl rfl (.nil 4))))) (takeAgQ (r := 1000000) (p := []) (cs := flO f) rfl (whL_flO f) rfl) rfl rfl rfl rfl ?_
  refine go3 ?_
  refine WO.q rfl (QE.ldOw rfl rfl rfl) rfl rfl ?_
  refine go3 ?_
  refine WO.callV (a := 0) (xs := [.tmp 7]) rfl rfl rfl rfl (encL_length _) rfl rfl c1 rfl (by simp only [noIm, noIm_eI]) rfl rfl rfl rfl rfl ?_
  refine go3 ?_
  refine WO.q rfl (QE.ldOw rfl rfl rfl) rfl rfl ?_
  refine go3 ?_
  refine WO.callV (a := 1) (xs := [.tmp 11]) rfl rfl rfl rfl (encL_length _) rfl rfl c2 rfl (by simp only [noIm, noIm_eI]) rfl rfl rfl rfl rfl ?_
  refine go3 ?_
  exact retT rfl rfl (.ag (takeVr (r := 2) (cs := flM f m) rfl (whL_flM f m)) (.plain rfl (.nil _)))
/-- An answer with a flow: its parts may be nil. -/
def FlA (X : FuncId → List AV → AV → List AV → Prop) (f : FuncId) (args fin : List AV) (F : Fl) : Prop :=
  Ev Try.prog X (.fn f args (.ag (flO F)) fin) ∨ (F = ⟨[], [], 0, 0⟩ ∧ Ev Try.prog X (.fn f args (.ag [.nl, .nl, i64 0, i64 0]) fin))
theorem WO.callFl {all : Array Oper} {l : List Oper} {R : (Nat → AV) → Prop} {g : Option (Nat × Bool)} {env : Env} {d : Nat} {ty : TypeId} {pos : String} {af : Array Edge} {fn : FuncId} {xs : Array Operand} {ts : Array TypeId} {args fin : List AV} {F : Fl} (hg : gg all (look env) g = some true) (ha : FrzL (look env) (xs.toList.map (ov (look env))) args) (hf : FlA X fn args fin F) (hn : nrE d env = true) (k : WO Try.prog X all l (look ((d, .ag (flO F)) :: env)) R) : WO Try.prog X all (⟨some d, .call { callee := .value (.func fn), args := xs, argTypes := ts }, ty, pos, af, g⟩ :: l) (look env) R := by
  rcases hf with hf | ⟨rfl, hf⟩
  · exact WO.callF hg ha hf (noIm_flO F) hn rfl k
  · refine WO.callF hg ha hf rfl hn rfl ?_
    have hd : ∀ (a : AV) (e : Env), look ((d, a) :: e) d = a := fun a e => by simp only [look, Nat.beq_refl, cond_true]
    refine WO.castAt (r := d) (p := [0]) (y := .ag [.ow 2 1 0 [], .nl, i64 0, i64 0]) 2 1 (by decide) (by rw [hd]; rfl) (by rw [hd]; rfl) ?_
    rw [look_dup]
    refine WO.castAt (r := d) (p := [1]) (y := .ag [.ow 2 1 0 [], .ow 2 1 0 [], i64 0, i64 0]) 2 1 (by decide) (by rw [hd]; rfl) (by rw [hd]; rfl) ?_
    rw [look_dup]
    exact k
theorem flowBoth (p : Pr) (hB : PB p) : ∃ F : Fl, (F.vars.length ≤ 4194304 ∧ F.arrs.length ≤ 4194304) ∧ FlA X 26 [.ag (prR p)] [.dead] F ∧ FlA X 27 [.ag (prR p)] [.dead] F := by
  by_cases h : PrOk p
  · obtain ⟨r, hr, -⟩ := h.n
    obtain ⟨r1, r2, r3, r4, r5⟩ := h.r
    have hk := flowN_ok h r
    have hin : insN p = p.lows.length + p.secs.length := by unfold insN; omega
    have hv : varsN p = p.lows.length + p.secs.length + p.temps := by unfold varsN; omega
    have h1 := hk.nv; have h2 := hk.na; have h3 := h.i.1; have h4 := h.i.2.1; have h5 := hB.a
    exact ⟨flowN p r, ⟨by omega, by omega⟩, .inl (specFlowOf p hB h hr), .inl (implFlowOf p hB h hr)⟩
  · exact ⟨⟨[], [], 0, 0⟩, ⟨by simp, by simp⟩, .inr ⟨rfl, specFlowOfN p hB h⟩, .inr ⟨rfl, implFlowOfN p hB h⟩⟩
/-- A marked flow that a variable owns is only read by a call. -/
theorem frzFlM {env : Env} {r n1 n2 : Nat} {f : Fl} {x y : AV} {zs ts : List AV} (e1 : f.vars.length = n1) (e2 : f.arrs.length = n2) (h0 : getN [0] (look env r) = some (.ow 2 1 n1 (encL eI f.vars))) (h1 : getN [1] (look env r) = some (.ow 2 1 n2 (encL eI f.arrs))) (hx : x = i64 f.esc) (hy : y = i64 f.lk) (k : FrzL (look env) zs ts) : FrzL (look env) (.ag [.vw r [0] 0 n1, .vw r [1] 0 n2, x, y] :: zs) (.ag (flR f) :: ts) := by
  subst e1 e2 hx hy
  exact frzFl h0 h1 k
/-- A flow that a variable owns is given away. -/
theorem takeFfl {env : Env} {r : Nat} {f : Fl} (hr : look env r = .op (flO f)) : TakeF (look env) [.ag (flV r f)] [.ag (flO f)] (look ((r, .op [.dead, .dead, i64 f.esc, i64 f.lk]) :: env)) := by
  have e1 : setS (look env) r [0] .dead = look ((r, .op [.dead, ints f.arrs, i64 f.esc, i64 f.lk]) :: env) := by rw [setS_look, hr]; rfl
  have e2 : setS (look ((r, .op [.dead, ints f.arrs, i64 f.esc, i64 f.lk]) :: env)) r [1] .dead = look ((r, .op [.dead, .dead, i64 f.esc, i64 f.lk]) :: env) := by rw [setS_same]; rfl
  refine .ag (.vw (e := 2) (sz := 1) (cs := encL eI f.vars) (by rw [hr]; rfl) (encL_length _) ?_) (.nil _)
  rw [e1]
  refine .vw (e := 2) (sz := 1) (cs := encL eI f.arrs) (by simp only [look, Nat.beq_refl, cond_true]; rfl) (encL_length _) ?_
  rw [e2]
  exact .plain rfl (.plain rfl (.nil _))
/-- It comes back. -/
theorem backFl {env : Env} {r n1 n2 : Nat} {a b x y u v : AV} (hne : nbE r 1 env = true) : BackL (look ((r, .op [.dead, .dead, u, v]) :: env)) [true, true, true, true] [.vw r [0] 0 n1, .vw r [1] 0 n2, a, b] [x, y, a, b] (look ((r, .op [x, y, u, v]) :: env)) := by
  have hd : ∀ (a : AV) (e : Env), look ((r, a) :: e) r = a := fun a e => by simp only [look, Nat.beq_refl, cond_true]
  have e1 : modS (look ((r, .op [.dead, .dead, u, v]) :: env)) r [0] (isU r [0]) x = look ((r, .op [x, .dead, u, v]) :: env) := by
    rw [modS_lookU (r := r) (p := [0]) (by simp only [nbE, nbA, List.length_singleton, hne, Bool.and_self]) (by rw [hd]; rfl), hd, look_dup]; rfl
  have e2 : modS (look ((r, .op [x, .dead, u, v]) :: env)) r [1] (isU r [1]) y = look ((r, .op [x, y, u, v]) :: env) := by
    rw [modS_lookU (r := r) (p := [1]) (by simp only [nbE, nbA, List.length_singleton, hne, Bool.and_self]) (by rw [hd]; rfl), hd, look_dup]; rfl
  refine .vw (by rw [hd]; rfl) ?_
  rw [e1]
  refine .vw (by rw [hd]; rfl) ?_
  rw [e2]
  exact .skip (.skip (.nil _))
theorem noIm_prM' (p : Pr) (m : Int) : noIm (.ag (prM p m)) = true := by simp only [noIm, prM, noImL, noIm_inp', noIm_eI', noIm_stO, Bool.and_self]
set_option maxHeartbeats 40000000 in
theorem fnExactFlowOf (p : Pr) (hq : PrQ p) : Ev Try.prog X (.fn 5 [.ag (prR p)] (bl true) [.dead]) := by
  obtain ⟨r, hS, hle, hPB⟩ := szProg (X := X) p 1048576 (by omega) (by omega) hq.l hq.s hq.a hq.b hq.e
  refine Ev.fnW (env := [(0, .ag (prR p))]) Try.func5 rfl nm_laws_FnExactFlowOf rfl rfl (by kernel_rfl) (.cons rfl .nil) ?_
  refine go3 ?_
  refine WO.call rfl rfl rfl hS rfl rfl ?_
  by_cases hr : r < 0
  · refine go3 ?_
    exact retV rfl rfl rfl rfl
  have hB := hPB (by omega)
  obtain ⟨F, ⟨l1, l2⟩, hs, hi⟩ := flowBoth (X := X) p hB
  have cP := toProg (X := X) p hB
  have cE := eqProg (X := X) p hB
  have cQ := eqFlow (X := X) F l1 l2
  have cV := markFlow (X := X) F 1 (by omega) (by omega)
  have cH := heldFlow (X := X) F 1 (by omega) (by omega)
  have hm0 : 0 ≤ 1 + (F.vars.length : Int) + F.arrs.length ∧ 1 + (F.vars.length : Int) + F.arrs.length ≤ 4611686018427387904 := by omega
  obtain ⟨m, hm⟩ : ∃ m, m = 1 + (F.vars.length : Int) + F.arrs.length := ⟨_, rfl⟩
  rw [← hm] at cV cH hm0
  have hk0 := mkS_nn p.body
  have hk1 := mkS_le hB.e
  have cM := markProg (X := X) p 1 hB (by omega) (by omega)
  have hb1 := hB.l; have hb2 := hB.s; have hb3 := hB.a; have hb4 := hB.b
  obtain ⟨M, hM⟩ : ∃ M : Int, M = 1 + 2 * p.lows.length + 2 * p.secs.length + p.arrs.length + mkS p.body := ⟨_, rfl⟩
  rw [← hM] at cM
  have hM0 : 0 ≤ M ∧ M ≤ 1099511627776000 := by omega
  clear hPB hS hM hk0 hk1 hb1 hb2 hb3 hb4 hm l1 l2
  refine go3 ?_
  refine WO.call rfl rfl rfl cP rfl rfl ?_
  refine WO.hardPr (r := 17) rfl ?_
  refine WO.callFl (F := F) rfl (.ag (FrzL.plains rfl) .nil) hs rfl ?_
  refine go3 ?_
  refine WO.stG (vs := flO F) rfl rfl rfl (takeAgQ (r := 18) (p := []) (cs := flO F) rfl (whL_flO F) rfl) rfl rfl rfl rfl ?_
  refine WO.hard (r := 4) (p := [0]) (x := ints F.vars) (y := .op [.im F.vars.length (encL eI F.vars), ints F.arrs, i64 F.esc, i64 F.lk]) rfl rfl (by simp only [Eng.hard, hardL_pl (encL_pl (f := eI) _)]; rfl) ?_
  refine WO.hard (r := 4) (p := [1]) (x := ints F.arrs) (y := .op (flR F)) rfl rfl (by simp only [Eng.hard, hardL_pl (encL_pl (f := eI) _)]; rfl) ?_
  refine WO.keep (e' := [(1, .op (prR p)), (4, .op (flR F))]) (.cons rfl (.cons rfl .nil)) ?_
  refine go3 ?_
  refine WO.call rfl rfl rfl cP rfl rfl ?_
  refine go3 ?_
  refine WO.stG (vs := prO p) rfl rfl rfl (takeAgQ (r := 20) (p := []) (cs := prO p) rfl (whL_prO p) rfl) rfl rfl rfl rfl ?_
  refine go3 ?_
  refine WO.q rfl (QE.ldG rfl rfl rfl (L := prV 5 [] p) rfl) rfl rfl ?_
  refine go3 ?_
  refine WO.callFl (F := F) rfl (frzPr rfl rfl rfl rfl .nil) hi rfl ?_
  refine go3 ?_
  refine WO.stG (vs := flO F) rfl rfl rfl (takeAgQ (r := 22) (p := []) (cs := flO F) rfl (whL_flO F) rfl) rfl rfl rfl rfl ?_
  refine WO.keep (e' := [(1, .op (prR p)), (4, .op (flR F)), (5, .op (prO p)), (6, .op (flO F))]) (.cons rfl (.cons rfl (.cons rfl (.cons rfl .nil)))) ?_
  refine go3 ?_
  refine WO.q rfl (QE.ldG rfl rfl rfl (L := flV 6 F) rfl) rfl rfl ?_
  refine go3 ?_
  refine WO.callF rfl (frzFl rfl rfl (.ag (FrzL.plains rfl) .nil)) cQ rfl rfl rfl ?_
  refine go3 ?_
  refine WC.keep (e' := [(1, .op (prR p)), (4, .op (flR F)), (5, .op (prO p)), (6, .op (flO F))]) (.cons rfl (.cons rfl (.cons rfl (.cons rfl .nil)))) ?_
  refine WC.regionDd ⟨[[], [], [1], [0, 1, 2], [0, 1, 2, 3]], [0, 1, 2, 4], [], [27, 28, 29, 31], [0, 1, 2, 3, 4], [([28, 29], [28, 29], false), ([27], [27], false), ([27], [27], false), ([], [], false), ([], [], false)]⟩ (by kernel_rfl) ?_
  refine WD.q rfl rfl rfl rfl rfl (QE.ldG rfl rfl rfl (L := prV 5 [] p) rfl) rfl rfl rfl ?_
  refine go3 ?_
  refine WD.q rfl rfl rfl rfl rfl (QE.call rfl rfl cP) rfl rfl rfl ?_
  refine go3 ?_
  refine WO.hardPr (r := 29) rfl ?_
  refine WO.callF rfl (frzPr rfl rfl rfl rfl (.ag (FrzL.plains rfl) .nil)) cE rfl rfl rfl ?_
  refine go3 ?_
  refine WO.q rfl (QE.ldG rfl rfl rfl (L := prV 5 [] p) rfl) rfl rfl ?_
  refine go3 ?_
  refine WO.callG (xs := [.tmp 33]) rfl rfl (takeFpr rfl) rfl rfl cM rfl (noIm_prM' p 1) rfl rfl rfl rfl ?_
  refine go3 ?_
  refine WO.q rfl (QE.ldG rfl rfl rfl (L := flV 6 F) rfl) rfl rfl ?_
  refine go3 ?_
  refine WO.callF rfl (frzFl rfl rfl (.ag (FrzL.plains rfl) .nil)) cQ rfl rfl rfl ?_
  refine go3 ?_
  refine WO.keep (e' := [(1, .op (prR p)), (4, .op (flR F)), (6, .op (flO F)), (8, i64 1)]) (.cons rfl (.cons rfl (.cons rfl (.cons rfl .nil)))) ?_
  refine WO.q rfl (QE.ldG rfl rfl rfl (L := flV 6 F) rfl) rfl rfl ?_
  refine go3 ?_
  refine WO.callGB (xs := [.tmp 44]) rfl rfl (takeFfl rfl) rfl rfl cV rfl (noIm_flM F 1) rfl rfl (backFl rfl) rfl rfl ?_
  refine go3 ?_
  refine WO.q rfl (QE.ldG rfl rfl rfl (L := [.vw 6 [0] 0 F.vars.length, .vw 6 [1] 0 F.arrs.length, i64 F.esc, i64 F.lk]) rfl) rfl rfl ?_
  refine go3 ?_
  refine WO.callF rfl (frzFlM (f := mkF F 1) (markI_len _ _) (markI_len _ _) rfl rfl rfl rfl (.cons (.plain _ rfl) .nil)) cH rfl rfl rfl ?_
  refine go3 ?_
  refine WO.keep (e' := [(4, .op (flR F)), (6, .op (flM F 1)), (8, i64 m), (54, .ag (prR p))]) (.cons rfl (.cons rfl (.cons rfl (.cons rfl .nil)))) ?_
  refine WO.call rfl rfl rfl cP rfl rfl ?_
  refine WO.hardPr (r := 55) rfl ?_
  refine WO.callFl (F := F) rfl (.ag (FrzL.plains rfl) .nil) hi rfl ?_
  refine go3 ?_
  refine WO.stG (vs := flO F) rfl rfl rfl (takeAgQ (r := 56) (p := []) (cs := flO F) rfl (whL_flO F) rfl) rfl rfl rfl rfl ?_
  refine WO.keep (e' := [(4, .op (flR F)), (6, .op (flM F 1)), (8, i64 m), (10, .op (flO F))]) (.cons rfl (.cons rfl (.cons rfl (.cons rfl .nil)))) ?_
  refine go3 ?_
  refine WO.q rfl (QE.ldG rfl rfl rfl (L := flV 10 F) rfl) rfl rfl ?_
  refine go3 ?_
  refine WO.callF rfl (frzFl rfl rfl (.ag (FrzL.plains rfl) .nil)) cQ rfl rfl rfl ?_
  refine go3 ?_
  refine WO.q rfl (QE.ldG rfl rfl rfl (L := [.vw 6 [0] 0 F.vars.length, .vw 6 [1] 0 F.arrs.length, i64 F.esc, i64 F.lk]) rfl) rfl rfl ?_
  refine go3 ?_
  refine WO.callF rfl (frzFlM (f := mkF F 1) (markI_len _ _) (markI_len _ _) rfl rfl rfl rfl (.cons (.plain _ rfl) .nil)) cH rfl rfl rfl ?_
  refine go3 ?_
  exact retV rfl rfl rfl rfl
theorem fnExactFlowOfW (p : Pr) (h : PrQ p) : Ev Try.prog X (.fn 5 [.ag (prR p)] (bl true) [.dead]) := fnExactFlowOf p h
end Go.Eng.C
