/- Contracts of functions, by the engine: whole runs, of the reference; what is left behind; outcomes compared; the inputs of a law. -/
import Derived.Test.YtbhdobjjhkkpkaaEngRe
import Derived.Test.YtbhdobjjhkkpkaaEngRc
import Derived.Test.YtbhdobjjhkkpkaaEngWf
namespace Go.Eng
open Go Go.RowKit
section
variable {P : Program} {X : FuncId → List AV → AV → List AV → Prop} {all : Array Oper} {l : List Oper} {R : (Nat → AV) → Prop} {env : Env} {g : Option (Nat × Bool)} {d t t2 n : Nat} {ty : TypeId} {pos : String} {af : Array Edge} {ex : Ex} {fin : List AV} {res : AV}
/-- A struct of own parts is laid into a new variable. -/
theorem WO.boxT {e : Nat} {x : Operand} {az cs : List AV} {env1 : Env} (hg : gg all (look env) g = some true) (hx : ov (look env) x = .ag az) (hT : TakeL (look env) [.ag az] [.ag cs] (look env1)) (hn : nrE d env1 = true) (hr : nrA d (.op cs) = true) (k : WO P X all l (look ((d, .op cs) :: env1)) R) : WO P X all (⟨some d, .box e x, ty, pos, af, g⟩ :: l) (look env) R := by
  refine WO.op (σ1 := put (look env1) d (.op cs)) (gg_goes hg) (.box rfl rfl (by rw [hx]; exact hT) rfl) ?_
  rw [put_look hn hr]
  exact k
theorem retPP {a b : AV} (hx : ov (look env) (.tmp t) = a) (hy : ov (look env) (.tmp t2) = b) (ha : isPl a = true) (hb : isPl b = true) (hres : .tu [a, b] = res) (hf : fins n (look env) = fin) (hn : fin.all noRf = true) (he : ex = .normal ∨ ex = .ret := by simp) :
    (ex = .normal ∨ ex = .ret) ∧ ∃ az rs σ2, ResL P (look env) [.tmp t, .tmp t2] az ∧ TakeL (look env) az rs σ2 ∧ resOf rs = res ∧ fins n σ2 = fin ∧ fin.all noRf = true := by
  refine ⟨he, _, [a, b], look env, .tmp t (.tmp t2 .nil), ?_, hres, hf, hn⟩
  rw [hx, hy]; exact .plain ha (.plain hb (.nil _))
end
end Go.Eng
namespace Go.Eng.C
open Go Go.Eng Go.RowKit Go.Proofs
set_option linter.unusedVariables false
set_option linter.unusedSimpArgs false
set_option maxRecDepth 10000
variable {X : FuncId → List AV → AV → List AV → Prop}
theorem nm_spec_l6All : (Try.f102.name == "runtime.NumGoroutine") = false := by decide
theorem nm_spec_RunOf : (Try.f39.name == "runtime.NumGoroutine") = false := by decide
theorem nm_impl_AfterOf : (Try.f58.name == "runtime.NumGoroutine") = false := by decide
theorem nm_impl_LikeOutcomes : (Try.f59.name == "runtime.NumGoroutine") = false := by decide
theorem nm_laws_inputs : (Try.f56.name == "runtime.NumGoroutine") = false := by decide
/-- The cells of a run, only read. -/
def l6R (p : Pr) (s : Mc) (e c : Int) (st : Bool) : List AV := [i64 p.w, .im p.lows.length (encL inp p.lows), .im p.secs.length (encL inp p.secs), i64 p.temps, .im p.arrs.length (encL eI p.arrs), .im p.body.length (encL stR p.body), .im s.v.vars.length (encL eI s.v.vars), .im s.v.cells.length (encL eRow s.v.cells), .im s.o.length (encL eI s.o), i64 e, i64 c, bl st]
theorem hardL_l6 (p : Pr) (s : Mc) (e c : Int) (st : Bool) : hardL (l6c p s e c st) = l6R p s e c st := by
  simp only [l6c, l6R, ints, rowsO, hardL, Eng.hard, hardL_pl (encL_pl (f := eI) _), hardL_rows]
/-- The parts of a run are laid together. -/
theorem takeL6 {env : Env} {r : Nat} {v : Vs} {p : Pr} (h1 : look env r = .op (enO v)) : TakeL (look env) [.ag [i64 p.w, .im p.lows.length (encL inp p.lows), .im p.secs.length (encL inp p.secs), i64 p.temps, .im p.arrs.length (encL eI p.arrs), .im p.body.length (encL stR p.body), .vw r [0] 0 v.vars.length, .vw r [1] 0 v.cells.length, .nl, i64 0, i64 0, bl false]] [.ag ((l6c p ⟨v, []⟩ 0 0 false).set 8 .nl)] (look ((r, .op [.dead, .dead]) :: env)) := by
  have e1 : setS (look env) r [0] .dead = look ((r, .op [.dead, rowsO v.cells]) :: env) := by rw [setS_look, h1]; rfl
  have e2 : setS (look ((r, .op [.dead, rowsO v.cells]) :: env)) r [1] .dead = look ((r, .op [.dead, .dead]) :: env) := by rw [setS_same]; rfl
  refine TakeF.takeL (.ag (.plain rfl (.plain rfl (.plain rfl (.plain rfl (.plain rfl (.plain rfl (.vw (e := 2) (sz := 1) (cs := encL eI v.vars) (by rw [h1]; rfl) (encL_length _) ?_))))))) (.nil _))
  rw [e1]
  refine .vw (e := 23) (sz := 1) (cs := encL (eO 2 1 eI) v.cells) (by simp only [look, Nat.beq_refl, cond_true]; rfl) (by rw [rows_len]; omega) ?_
  rw [e2]
  exact .plain rfl (.plain rfl (.plain rfl (.plain rfl (.nil _))))
set_option maxHeartbeats 8000000 in
theorem l6All (p : Pr) (a b : List Int) (hB : PB p) (h : StOk p a b) (ha : a.length ≤ 1048576) (hb : b.length ≤ 1048576) : Ev Try.prog X (.fn 102 [.ag (prR p), .im a.length (encL eI a), .im b.length (encL eI b)] (.tu [.ip (l6R p (runP p a b).1 (runP p a b).2.1 (runP p a b).2.2 (decide ((runP p a b).2.1 ≠ 0))), bl true]) [.dead, .dead, .dead]) := by
  obtain ⟨r, hr, hbk, s0, s4, hg, e⟩ := runP_good h
  have hp := h.1
  have cD := (l6Run (X := X) p hB hp.rp hp.r.2.2.2.1 p.body.length 0 p.body.length r (by omega) (by omega) hbk) _ h.mok (by simp only [List.length_nil]; omega)
  rw [← e] at cD
  have cS := specStartOf (X := X) p a b hB h
  obtain ⟨V, hV⟩ : ∃ V, V = stV p a b := ⟨_, rfl⟩
  obtain ⟨q, hq⟩ : ∃ q, q = runP p a b := ⟨_, rfl⟩
  rw [← hV, ← hq] at cD
  rw [← hV] at cS
  rw [← hq]
  clear hg e hV hq
  refine Ev.fnW (env := [(0, .ag (prR p)), (1, .im a.length (encL eI a)), (2, .im b.length (encL eI b))]) Try.func102 rfl nm_spec_l6All rfl rfl (by kernel_rfl) (.cons rfl (.cons rfl (.cons rfl .nil))) ?_
  refine go3 ?_
  refine WO.call rfl rfl rfl cS rfl rfl ?_
  refine WO.mvR rfl (.move _) rfl rfl rfl ?_
  refine WO.extR rfl rfl rfl rfl rfl ?_
  refine WO.extR rfl rfl rfl rfl rfl ?_
  refine go3 ?_
  refine WO.stG (vs := enO V) rfl rfl rfl (takeAgQ (r := 15) (p := [0]) (cs := enO V) rfl (whL_enO _) rfl) rfl rfl rfl rfl ?_
  refine go3 ?_
  refine WO.q rfl (QE.ldG rfl rfl rfl (L := [.vw 8 [0] 0 V.vars.length, .vw 8 [1] 0 V.cells.length]) rfl) rfl rfl ?_
  refine WO.bld (cs := [i64 p.w, .im p.lows.length (encL inp p.lows), .im p.secs.length (encL inp p.secs), i64 p.temps, .im p.arrs.length (encL eI p.arrs), .im p.body.length (encL stR p.body), .vw 8 [0] 0 V.vars.length, .vw 8 [1] 0 V.cells.length, .nl, i64 0, i64 0, bl false]) rfl rfl rfl rfl ?_
  refine WO.boxT (cs := (l6c p ⟨V, []⟩ 0 0 false).set 8 .nl) rfl rfl (takeL6 (r := 8) (v := V) rfl) rfl rfl ?_
  refine WO.castAt (r := 21) (p := [8]) (y := .op (l6c p ⟨V, []⟩ 0 0 false)) 2 1 (by decide) rfl rfl ?_
  refine WO.keep (e' := [(3, .op (prR p)), (9, bl true), (21, .op (l6c p ⟨V, []⟩ 0 0 false))]) (.cons rfl (.cons rfl (.cons rfl .nil))) ?_
  refine go3 ?_
  refine WO.callD (xs := [.const (.int .i64 0), .tmp 28]) rfl rfl rfl rfl rfl cD rfl rfl rfl rfl ?_
  refine WO.hard (r := 10) (p := []) (x := .op (l6q p q)) (y := .ip (l6R p q.1 q.2.1 q.2.2 (decide (q.2.1 ≠ 0)))) rfl rfl (by simp only [setN, Eng.hard, l6q, hardL_l6]) ?_
  refine go3 ?_
  exact retPP rfl rfl rfl rfl rfl rfl rfl
set_option maxHeartbeats 4000000 in
theorem specRunOf (p : Pr) (a b : List Int) (hB : PB p) (h : StOk p a b) (ha : a.length ≤ 1048576) (hb : b.length ≤ 1048576) : Ev Try.prog X (.fn 39 [.ag (prR p), .im a.length (encL eI a), .im b.length (encL eI b)] (.tu [.ag (ocR (runP p a b).1.o (runP p a b).2.1 (runP p a b).2.2), bl true]) [.dead, .dead, .dead]) := by
  have cR := l6All (X := X) p a b hB h ha hb
  generalize decide ((runP p a b).2.1 ≠ 0) = st at *
  generalize runP p a b = q at *
  refine Ev.fnW (env := [(0, .ag (prR p)), (1, .im a.length (encL eI a)), (2, .im b.length (encL eI b))]) Try.func39 rfl nm_spec_RunOf rfl rfl (by kernel_rfl) (.cons rfl (.cons rfl (.cons rfl .nil))) ?_
  refine go3 ?_
  refine WO.call rfl rfl rfl cR rfl rfl ?_
  refine go3 ?_
  refine WO.keep (e' := [(6, .op [.nl, i64 0, i64 0]), (9, bl true), (19, .ip (ocR q.1.o q.2.1 q.2.2 ++ [bl st]))]) (.cons rfl (.cons rfl (.cons rfl .nil))) ?_
  refine WO.q rfl (QE.ldIA' (cs := ocR q.1.o q.2.1 q.2.2) (rest := [bl st]) rfl rfl) rfl rfl ?_
  refine go3 ?_
  exact retCV rfl rfl rfl rfl rfl rfl rfl rfl
set_option maxHeartbeats 4000000 in
theorem implAfterOf (p : Pr) (a b : List Int) (hB : PB p) (h : StOk p a b) (ha : a.length ≤ 1048576) (hb : b.length ≤ 1048576) : Ev Try.prog X (.fn 58 [.ag (prR p), .im a.length (encL eI a), .im b.length (encL eI b)] (.tu [.ag (enR (runP p a b).1.v), bl true]) [.dead, .dead, .dead]) := by
  have cR := ran (X := X) p a b hB h ha hb
  have cS := implStartOf (X := X) p a b hB h
  obtain ⟨V, hV⟩ : ∃ V, V = stV p a b := ⟨_, rfl⟩
  obtain ⟨q, hq⟩ : ∃ q, q = runP p a b := ⟨_, rfl⟩
  rw [← hq] at cR ⊢
  rw [← hV] at cS
  refine Ev.fnW (env := [(0, .ag (prR p)), (1, .im a.length (encL eI a)), (2, .im b.length (encL eI b))]) Try.func58 rfl nm_impl_AfterOf rfl rfl (by kernel_rfl) (.cons rfl (.cons rfl (.cons rfl .nil))) ?_
  refine go3 ?_
  refine WO.call rfl rfl rfl cS rfl rfl ?_
  refine WO.mvR rfl (.move _) rfl rfl rfl ?_
  refine WO.extR rfl rfl rfl rfl rfl ?_
  refine WO.extR rfl rfl rfl rfl rfl ?_
  refine go3 ?_
  refine WO.stG (vs := enO V) rfl rfl rfl (takeAgQ (r := 16) (p := [0]) (cs := enO V) rfl (whL_enO _) rfl) rfl rfl rfl rfl ?_
  refine WO.hard (r := 3) (p := []) (x := .op (prR p)) (y := .ip (prR p)) rfl rfl rfl ?_
  refine go3 ?_
  refine WO.call rfl rfl rfl cR rfl rfl ?_
  refine go3 ?_
  exact retCV rfl rfl rfl rfl rfl rfl rfl rfl
theorem likeSame (o : List Int) (e c : Int) (hl : o.length ≤ 1048576) : Ev Try.prog X (.fn 59 [.ag (ocR o e c), .ag (ocR o e c)] (bl true) [.dead, .dead]) := by
  refine Ev.fnW (env := [(0, .ag (ocR o e c)), (1, .ag (ocR o e c))]) Try.func59 rfl nm_impl_LikeOutcomes rfl rfl (by kernel_rfl) (.cons rfl (.cons rfl .nil)) ?_
  refine go3 ?_
  refine WC.loopS (S := Nat) (fun i => [(3, .op (ocR o e c)), (29, .im o.length (encL eI o)), (30, i64 o.length), (31, i64 i)]) (fun i => i ≤ o.length) (fun i => o.length - i) 0 (.cons rfl (.cons rfl (.cons rfl (.cons rfl .nil)))) (Nat.zero_le _) ?_
  intro i g
  refine go3 ?_
  refine WO.cmp rfl rfl rfl rfl rfl (fun h3 => ?_) (fun h3 => ?_)
  · have hi : i < o.length := by omega
    refine go3 ?_
    refine WO.ixN (f := eI) 0 rfl rfl rfl hi rfl ?_
    refine go3 ?_
    refine WO.ixN (f := eI) 0 rfl rfl rfl hi rfl ?_
    refine go3 ?_
    exact lpK.mk (i + 1) (.cons rfl (.cons rfl (.cons rfl (.cons rfl .nil)))) hi (show o.length - (i + 1) < o.length - i by omega)
  · refine go3 ?_
    exact retV rfl rfl rfl rfl
theorem lawInputs (p : Pr) (hB : PB p) (hp : PrOk p) (n : Int) (h0 : 0 ≤ n) (h1 : n < cntL (p.lows ++ p.secs)) : Ev Try.prog X (.fn 56 [.ag (prR p), i64 n] (.tu [.im ((atL (p.lows ++ p.secs) n).take p.lows.length).length (encL eI ((atL (p.lows ++ p.secs) n).take p.lows.length)), .im ((atL (p.lows ++ p.secs) n).drop p.lows.length).length (encL eI ((atL (p.lows ++ p.secs) n).drop p.lows.length))]) [.dead, .dead]) := by
  have c := specInputAt (X := X) p hB hp n h0 h1
  generalize (atL (p.lows ++ p.secs) n).take p.lows.length = u1 at *
  generalize (atL (p.lows ++ p.secs) n).drop p.lows.length = u2 at *
  refine Ev.fnW (env := [(0, .ag (prR p)), (1, i64 n)]) Try.func56 rfl nm_laws_inputs rfl rfl (by kernel_rfl) (.cons rfl (.cons rfl .nil)) ?_
  refine go3 ?_
  refine WO.call rfl rfl rfl c rfl rfl ?_
  refine WO.mvR rfl (.move _) rfl rfl rfl ?_
  refine WO.extR rfl rfl rfl rfl rfl ?_
  refine WO.extR rfl rfl rfl rfl rfl ?_
  refine WO.extR rfl rfl rfl rfl rfl ?_
  refine WO.takeP rfl (.assign _) rfl rfl (encL_length _) rfl rfl rfl ?_
  refine WO.takeP rfl (.assign _) rfl rfl (encL_length _) rfl rfl rfl ?_
  refine WO.hard (r := 6) (p := []) (x := ints u1) (y := .im u1.length (encL eI u1)) rfl rfl (by simp only [setN, Eng.hard, hardL_pl (encL_pl (f := eI) _)]) ?_
  refine WO.hard (r := 7) (p := []) (x := ints u2) (y := .im u2.length (encL eI u2)) rfl rfl (by simp only [setN, Eng.hard, hardL_pl (encL_pl (f := eI) _)]) ?_
  refine go3 ?_
  exact retPP rfl rfl rfl rfl rfl rfl rfl
end Go.Eng.C
