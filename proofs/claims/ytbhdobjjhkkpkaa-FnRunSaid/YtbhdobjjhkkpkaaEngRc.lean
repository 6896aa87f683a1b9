/- Contracts of functions, by the engine: whole runs, of the program. -/
import Derived.Test.YtbhdobjjhkkpkaaEngRb
import Derived.Test.YtbhdobjjhkkpkaaEngWh
import Derived.Test.YtbhdobjjhkkpkaaEngV6
namespace Go.Eng.C
open Go Go.Eng Go.RowKit Go.Proofs
set_option linter.unusedVariables false
set_option linter.unusedSimpArgs false
set_option maxRecDepth 10000
variable {X : FuncId → List AV → AV → List AV → Prop}
theorem nm_impl_ran : (Try.f103.name == "runtime.NumGoroutine") = false := by decide
theorem nm_impl_RunOf : (Try.f41.name == "runtime.NumGoroutine") = false := by decide
/-- The parts of a machine are laid together. -/
theorem takeMach {env : Env} {r1 r2 : Nat} {v : Vs} {c : List AV} (h1 : look env r1 = .ag (enO v)) (h2 : look env r2 = .ow 2 1 0 []) (hne : Nat.beq r1 r2 = false) : TakeL (look env) [.ag [.ip c, .vw r1 [0] 0 v.vars.length, .vw r1 [1] 0 v.cells.length, .vw r2 [] 0 0]] [.ag [.ip c, ints v.vars, rowsO v.cells, ints []]] (look ((r2, .dead) :: (r1, .ag [.dead, .dead]) :: env)) := by
  have e1 : setS (look env) r1 [0] .dead = look ((r1, .ag [.dead, rowsO v.cells]) :: env) := by rw [setS_look, h1]; rfl
  have e2 : setS (look ((r1, .ag [.dead, rowsO v.cells]) :: env)) r1 [1] .dead = look ((r1, .ag [.dead, .dead]) :: env) := by rw [setS_same]; rfl
  have hr2 : look ((r1, .ag [.dead, .dead]) :: env) r2 = .ow 2 1 0 [] := by simp only [look, hne, cond_false]; exact h2
  have e3 : setS (look ((r1, .ag [.dead, .dead]) :: env)) r2 [] .dead = look ((r2, .dead) :: (r1, .ag [.dead, .dead]) :: env) := by rw [setS_look]; rfl
  refine TakeF.takeL (.ag (.plain rfl (.vw (e := 2) (sz := 1) (cs := encL eI v.vars) (by rw [h1]; rfl) (encL_length _) ?_)) (.nil _))
  rw [e1]
  refine .vw (e := 23) (sz := 1) (cs := encL (eO 2 1 eI) v.cells) (by simp only [look, Nat.beq_refl, cond_true]; rfl) (by rw [rows_len]; omega) ?_
  rw [e2]
  refine .vw (e := 2) (sz := 1) (cs := []) (by rw [hr2]; rfl) rfl ?_
  rw [e3]
  exact .nil _
/-- An outcome's cells, only read. -/
def ocR (o : List Int) (e c : Int) : List AV := [.im o.length (encL eI o), i64 e, i64 c]
/-- The whole run of a right program. -/
def runP (p : Pr) (a b : List Int) : Rn := match nodesX p.body with
  | some r => runN p r ⟨stV p a b, []⟩
  | none => (⟨stV p a b, []⟩, 0, 0)
theorem InL.inW : ∀ {w : Int} {l : List Inp} {s : List Int}, InL l s → (∀ x ∈ l, x.max ≤ sizeW w - 1) → ∀ x ∈ s, C.inW w x
  | w, x :: l, a :: s, h, hl, y, hy => by
    rcases List.mem_cons.1 hy with rfl | hy
    · have := h.1; have := hl x (by simp); exact ⟨by omega, by omega⟩
    · exact InL.inW h.2 (fun z hz => hl z (List.mem_cons_of_mem _ hz)) y hy
  | w, [], [], h, hl, y, hy => by simp at hy
  | w, [], a :: s, h, hl, y, hy => h.elim
  | w, x :: l, [], h, hl, y, hy => h.elim
/-- A run begins right. -/
theorem StOk.mok {p : Pr} {a b : List Int} (h : StOk p a b) : MOk p ⟨stV p a b, []⟩ := by
  obtain ⟨hp, h1, h2⟩ := h
  have hsz := (sizeW_bd hp.w8).1
  refine ⟨?_, fun x hx => by simp at hx⟩
  exact stV_ok h1.len h2.len hp.r.1 hsz (h1.inW fun x hx => (hp.i.2.2.1 x hx).2.1) (h2.inW fun x hx => (hp.i.2.2.2.1 x hx).2.1) hp.r.2.2.2.2
theorem runP_good {p : Pr} {a b : List Int} (h : StOk p a b) : ∃ r, nodesX p.body = some r ∧ Bk p.body 0 p.body.length r ∧ 0 ≤ stp p.body r ∧ stp p.body r ≤ 400 ∧ Good p ⟨stV p a b, []⟩ (stp p.body r) (runP p a b) ∧ runP p a b = runN p r ⟨stV p a b, []⟩ := by
  obtain ⟨r, hr, h4⟩ := h.1.n
  have hbk := nodesX_bk hr
  have e : runP p a b = runN p r ⟨stV p a b, []⟩ := by unfold runP; rw [hr]
  refine ⟨r, hr, hbk, stp_nn (loop_ok h.1.s) hbk.ok, h4, ?_, e⟩
  rw [e]
  exact runN_good h.1.rp r hbk.gd _ h.mok
set_option maxHeartbeats 8000000 in
theorem ran (p : Pr) (a b : List Int) (hB : PB p) (h : StOk p a b) (ha : a.length ≤ 1048576) (hb : b.length ≤ 1048576) : Ev Try.prog X (.fn 103 [.ip (prR p), .im a.length (encL eI a), .im b.length (encL eI b)] (.tu [.ag (ocR (runP p a b).1.o (runP p a b).2.1 (runP p a b).2.2), .ag (enR (runP p a b).1.v)]) [.dead, .dead, .dead]) := by
  obtain ⟨r, hr, hbk, s0, s4, hg, e⟩ := runP_good h
  have hp := h.1
  have hl := hp.r.2.2.2.1
  have hsz := hbk.sz_le
  have cD := (mdo (X := X) p hB hp.rp hl r.sz r (Nat.le_refl _) (by omega) hbk.gd) _ h.mok (by simp only [List.length_nil]; omega)
  rw [← e] at cD
  have cS := startAt (X := X) p a b ha hb hp.r.1 hp.r.2.1 ⟨hp.r.2.2.1, hp.r.2.2.2.2⟩
  obtain ⟨res, fin, hN, hG⟩ := nodesOf (X := X) p.body (by omega)
  unfold nodesG at hG
  rw [hr] at hG
  obtain ⟨rfl, rfl⟩ := hG
  obtain ⟨V, hV⟩ : ∃ V, V = stV p a b := ⟨_, rfl⟩
  obtain ⟨q, hq⟩ : ∃ q, q = runP p a b := ⟨_, rfl⟩
  rw [← hV, ← hq] at cD
  rw [← hV] at cS
  rw [← hq]
  clear hg e hV hq
  refine Ev.fnW (env := [(0, .ip (prR p)), (1, .im a.length (encL eI a)), (2, .im b.length (encL eI b))]) Try.func103 rfl nm_impl_ran rfl rfl (by kernel_rfl) (.cons rfl (.cons rfl (.cons rfl .nil))) ?_
  refine go3 ?_
  refine WO.call rfl rfl rfl hN rfl rfl ?_
  refine go3 ?_
  refine WO.call rfl rfl rfl cS rfl rfl ?_
  refine go3 ?_
  refine WO.bld (cs := [.ip (prR p), .vw 24 [0] 0 V.vars.length, .vw 24 [1] 0 V.cells.length, .vw 25 [] 0 0]) rfl rfl rfl rfl ?_
  refine go3 ?_
  refine WO.stG (vs := mc p ⟨V, []⟩) rfl rfl rfl (takeMach (r1 := 24) (r2 := 25) (v := V) rfl rfl rfl) rfl rfl rfl rfl ?_
  refine go3 ?_
  refine WO.callD (xs := [.tmp 27]) rfl rfl rfl rfl rfl cD rfl rfl rfl rfl ?_
  refine go3 ?_
  refine WC.hard (r := 10) (p := [1]) (x := ints q.1.v.vars) (y := .op [.ip (prR p), .im q.1.v.vars.length (encL eI q.1.v.vars), rowsO q.1.v.cells, ints q.1.o]) rfl rfl (by simp only [ints, Eng.hard, hardL_pl (encL_pl (f := eI) _)]; rfl) ?_
  refine WC.hard (r := 10) (p := [2]) (x := rowsO q.1.v.cells) (y := .op [.ip (prR p), .im q.1.v.vars.length (encL eI q.1.v.vars), .im q.1.v.cells.length (encL eRow q.1.v.cells), ints q.1.o]) rfl rfl (by simp only [rowsO, Eng.hard, hardL_rows]; rfl) ?_
  refine WC.hard (r := 10) (p := [3]) (x := ints q.1.o) (y := .op (mcR p q.1)) rfl rfl (by simp only [ints, Eng.hard, hardL_pl (encL_pl (f := eI) _)]; rfl) ?_
  refine WC.keep (e' := [(6, .op [.nl, i64 0, i64 0]), (7, .op [.nl, .nl]), (10, .op (mcR p q.1)), (11, .op [i64 q.2.1, i64 q.2.2])]) (.cons rfl (.cons rfl (.cons rfl (.cons rfl .nil)))) ?_
  refine WC.regionDd ⟨[[], [0], [], [2], [], [4], [0, 1, 2, 3, 4, 5], [], [7], [0, 1, 2, 3, 4, 5, 6], [0, 1, 2, 3, 4, 5, 6, 7, 8, 9]], [0, 1, 2, 3, 4, 5, 6, 7, 8], [(9, [6])], [29, 30, 31, 32, 33, 34, 35, 36, 37], [0, 1, 2, 3, 4, 5, 6, 7, 8, 9, 10], [([31, 32, 33, 34, 36, 37], [31, 32, 33, 34, 36, 37], false), ([31, 32, 33, 34, 36, 37], [31, 32, 33, 34, 36, 37], false), ([29, 30, 33, 34, 36, 37], [29, 30, 33, 34, 36, 37], false), ([29, 30, 33, 34, 36, 37], [29, 30, 33, 34, 36, 37], false), ([29, 30, 31, 32, 36, 37], [29, 30, 31, 32, 36, 37], false), ([29, 30, 31, 32, 36, 37], [29, 30, 31, 32, 36, 37], false), ([36, 37], [36, 37], false), ([29, 30, 31, 32, 33, 34, 35], [29, 30, 31, 32, 33, 34, 35, 6], true), ([29, 30, 31, 32, 33, 34, 35], [29, 30, 31, 32, 33, 34, 35, 6], true), ([36, 37], [36, 37], false), ([], [], false)]⟩ (by kernel_rfl) ?_
  refine go3 ?_
  refine WD.q rfl rfl rfl rfl rfl (QE.bld (cs := ocR q.1.o q.2.1 q.2.2) rfl) rfl rfl rfl ?_
  refine go3 ?_
  refine WD.q rfl rfl rfl rfl rfl (QE.ldGI (i := 1) (L := enR q.1.v) rfl rfl rfl rfl) rfl rfl rfl ?_
  refine WD.gen (pre := [(6, .op (ocR q.1.o q.2.1 q.2.2))]) rfl rfl rfl rfl rfl ?_ rfl rfl rfl trivial rfl rfl (.cons _ (.nil _)) ?_
  · refine WO.stA rfl rfl rfl rfl rfl rfl rfl rfl rfl ?_
    refine WO.nil ?_
    exact WK.mk' (.cons _ (.nil _))
  refine go3 ?_
  exact retCC rfl rfl rfl rfl rfl rfl rfl rfl rfl rfl rfl
set_option maxHeartbeats 4000000 in
theorem implRunOf (p : Pr) (a b : List Int) (hB : PB p) (h : StOk p a b) (ha : a.length ≤ 1048576) (hb : b.length ≤ 1048576) : Ev Try.prog X (.fn 41 [.ag (prR p), .im a.length (encL eI a), .im b.length (encL eI b)] (.tu [.ag (ocR (runP p a b).1.o (runP p a b).2.1 (runP p a b).2.2), bl true]) [.dead, .dead, .dead]) := by
  have cR := ran (X := X) p a b hB h ha hb
  have cS := implStartOf (X := X) p a b hB h
  obtain ⟨V, hV⟩ : ∃ V, V = stV p a b := ⟨_, rfl⟩
  obtain ⟨q, hq⟩ : ∃ q, q = runP p a b := ⟨_, rfl⟩
  rw [← hq] at cR ⊢
  rw [← hV] at cS
  refine Ev.fnW (env := [(0, .ag (prR p)), (1, .im a.length (encL eI a)), (2, .im b.length (encL eI b))]) Try.func41 rfl nm_impl_RunOf rfl rfl (by kernel_rfl) (.cons rfl (.cons rfl (.cons rfl .nil))) ?_
  refine go3 ?_
  refine WO.call rfl rfl rfl cS rfl rfl ?_
  refine WO.mvR rfl (.move _) rfl rfl rfl ?_
  refine WO.extR rfl rfl rfl rfl rfl ?_
  refine WO.extR rfl rfl rfl rfl rfl ?_
  refine go3 ?_
  refine WO.stG (vs := enO V) rfl rfl rfl (takeAgQ (r := 16) (p := [0]) (cs := enO V) rfl (whL_enO _) rfl) rfl rfl rfl rfl ?_
  refine WO.hard (r := 3) (p := []) (x := .op (prR p)) (y := .ip (prR p)) rfl rfl rfl ?_
  refine go3 ?_
  refine WO.call rfl rfl rfl cR rfl rfl ?_
  refine go3 ?_
  exact retCV rfl rfl rfl rfl rfl rfl rfl rfl
theorem implRunOfN (p : Pr) (a b : List Int) (hB : PB p) (ha : a.length ≤ 1048576) (hb : b.length ≤ 1048576) (h : ¬ StOk p a b) : Ev Try.prog X (.fn 41 [.ag (prR p), .im a.length (encL eI a), .im b.length (encL eI b)] (.tu [.ag [.nl, i64 0, i64 0], bl false]) [.dead, .dead, .dead]) := by
  refine Ev.fnW (env := [(0, .ag (prR p)), (1, .im a.length (encL eI a)), (2, .im b.length (encL eI b))]) Try.func41 rfl nm_impl_RunOf rfl rfl (by kernel_rfl) (.cons rfl (.cons rfl (.cons rfl .nil))) ?_
  refine go3 ?_
  refine WO.call rfl rfl rfl (implStartOfN p a b hB (by omega) (by omega) h) rfl rfl ?_
  refine go3 ?_
  refine WO.bld (cs := [.nl, i64 0, i64 0]) rfl rfl rfl rfl ?_
  refine go3 ?_
  exact retCV rfl rfl rfl rfl rfl rfl rfl rfl
end Go.Eng.C
