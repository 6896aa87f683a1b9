/- The law FnExactStartOf, walked by the engine (begun). -/
import Derived.Test.YtdihagagelngiaaEngV8
import Derived.Test.YtdihagagelngiaaEngWk
namespace Go.Eng.C
open Go Go.Eng Go.RowKit Go.Proofs
set_option linter.unusedVariables false
set_option linter.unusedSimpArgs false
set_option maxRecDepth 10000
variable {X : FuncId → List AV → AV → List AV → Prop}
theorem nm_laws_FnExactStartOf : (Try.f10.name == "runtime.NumGoroutine") = false := by decide
theorem hardL_eO : ∀ (l : List (List Int)), hardL (encL (eO 2 1 eI) l) = encL eRow l
  | [] => rfl
  | x :: l => by
    rw [encL_cons, encL_cons]
    simp only [eO, eRow, List.cons_append, List.nil_append, hardL, Eng.hard, hardL_pl (encL_pl (f := eI) _), hardL_eO l]
/-- Surroundings that a variable owns are only read by a call. -/
theorem frzEn {env : Env} {r n1 n2 : Nat} {v : Vs} {zs ts : List AV} (e1 : v.vars.length = n1) (e2 : v.cells.length = n2) (h0 : getN [0] (look env r) = some (.ow 2 1 n1 (encL eI v.vars))) (h1 : getN [1] (look env r) = some (.ow 25 1 n2 (encL (eO 2 1 eI) v.cells))) (k : FrzL (look env) zs ts) : FrzL (look env) (.ag [.vw r [0] 0 n1, .vw r [1] 0 n2] :: zs) (.ag (enR v) :: ts) := by
  subst e1 e2
  refine .ag (.cons ?_ (.cons ?_ .nil)) k
  · have := Frz.vw (σ := look env) r 0 v.vars.length 2 1 v.vars.length [0] (encL eI v.vars) h0 (by rw [encL_length (f := eI) (sz := 1)]; omega)
    rwa [List.drop_zero, List.take_of_length_le (by rw [encL_length (f := eI) (sz := 1)]; exact Nat.le_refl _), hardL_pl (encL_pl (f := eI) _)] at this
  · have := Frz.vw (σ := look env) r 0 v.cells.length 25 1 v.cells.length [1] (encL (eO 2 1 eI) v.cells) h1 (by rw [encO_len]; omega)
    rwa [List.drop_zero, List.take_of_length_le (by rw [encO_len]; omega), hardL_eO] at this
/-- Surroundings that a variable owns are given away. -/
theorem takeFen {env : Env} {r : Nat} {v : Vs} (hr : look env r = .op (enO v)) : TakeF (look env) [.ag [.vw r [0] 0 v.vars.length, .vw r [1] 0 v.cells.length]] [.ag (enO v)] (look ((r, .op [.dead, .dead]) :: env)) := by
  have e1 : setS (look env) r [0] .dead = look ((r, .op [.dead, .ow 25 1 v.cells.length (encL (eO 2 1 eI) v.cells)]) :: env) := by rw [setS_look, hr]; rfl
  have e2 : setS (look ((r, .op [.dead, .ow 25 1 v.cells.length (encL (eO 2 1 eI) v.cells)]) :: env)) r [1] .dead = look ((r, .op [.dead, .dead]) :: env) := by rw [setS_same]; rfl
  refine .ag (.vw (e := 2) (sz := 1) (cs := encL eI v.vars) (by rw [hr]; rfl) (encL_length _) ?_) (.nil _)
  rw [e1]
  refine .vw (e := 25) (sz := 1) (cs := encL (eO 2 1 eI) v.cells) (by simp only [look, Nat.beq_refl, cond_true]; rfl) (by rw [encO_len]; omega) ?_
  rw [e2]
  exact .nil _
theorem totI_le : ∀ {l : List (List Int)}, (∀ x ∈ l, x.length ≤ 4194304) → totI l ≤ 4194304 * l.length
  | [], _ => by simp [totI]
  | x :: l, h => by
    have h1 := h x (by simp)
    have h2 := totI_le (l := l) fun y hy => h y (List.mem_cons_of_mem _ hy)
    simp only [totI, List.length_cons]; omega
/-- An answer with surroundings: they may be nil. -/
def StA (X : FuncId → List AV → AV → List AV → Prop) (f : FuncId) (args fin : List AV) (v : Vs) (ok : Bool) : Prop :=
  Ev Try.prog X (.fn f args (.tu [.ag (enO v), bl ok]) fin) ∨ (v = ⟨[], []⟩ ∧ Ev Try.prog X (.fn f args (.tu [.ag [.nl, .nl], bl ok]) fin))
theorem WO.callSt {all : Array Oper} {l : List Oper} {R : (Nat → AV) → Prop} {g : Option (Nat × Bool)} {env : Env} {d : Nat} {ty : TypeId} {pos : String} {af : Array Edge} {fn : FuncId} {xs : Array Operand} {ts : Array TypeId} {args fin : List AV} {v : Vs} {ok : Bool} (hg : gg all (look env) g = some true) (ha : FrzL (look env) (xs.toList.map (ov (look env))) args) (hf : StA X fn args fin v ok) (hn : nrE d env = true) (k : WO Try.prog X all l (look ((d, .tu [.ag (enO v), bl ok]) :: env)) R) : WO Try.prog X all (⟨some d, .call { callee := .value (.func fn), args := xs, argTypes := ts }, ty, pos, af, g⟩ :: l) (look env) R := by
  rcases hf with hf | ⟨rfl, hf⟩
  · exact WO.callF hg ha hf (by simp only [noIm, noImL, enO, noIm_eI, noIm_eO, Bool.and_self]) hn rfl k
  · refine WO.callF hg ha hf rfl hn rfl ?_
    have hd : ∀ (a : AV) (e : Env), look ((d, a) :: e) d = a := fun a e => by simp only [look, Nat.beq_refl, cond_true]
    refine WO.castAt (r := d) (p := [0, 0]) (y := .tu [.ag [.ow 2 1 0 [], .nl], bl ok]) 2 1 (by decide) (by rw [hd]; rfl) (by rw [hd]; rfl) ?_
    rw [look_dup]
    refine WO.castAt (r := d) (p := [0, 1]) (y := .tu [.ag [.ow 2 1 0 [], .ow 25 1 0 []], bl ok]) 25 1 (by decide) (by rw [hd]; rfl) (by rw [hd]; rfl) ?_
    rw [look_dup]
    exact k
theorem startBoth (p : Pr) (a b : List Int) (hB : PB p) (ha : a.length ≤ 1048576) (hb : b.length ≤ 1048576) : ∃ (v : Vs) (ok : Bool), (v.vars.length ≤ 4194304 ∧ v.cells.length ≤ 4194304 ∧ ∀ l ∈ v.cells, l.length ≤ 4194304) ∧ StA X 54 [.ag (prR p), .im a.length (encL eI a), .im b.length (encL eI b)] [.dead, .dead, .dead] v ok ∧ StA X 56 [.ag (prR p), .im a.length (encL eI a), .im b.length (encL eI b)] [.dead, .dead, .dead] v ok := by
  by_cases h : StOk p a b
  · obtain ⟨r1, r2, r3, r4, r5⟩ := h.1.r
    have a1 := h.2.1.len; have a2 := h.2.2.len
    refine ⟨stV p a b, true, ⟨?_, ?_, ?_⟩, .inl (specStartOf p a b hB h), .inl (implStartOf p a b hB h)⟩
    · simp only [stV, List.length_append, List.length_replicate]; omega
    · simp only [stV, List.length_map]; have := hB.a; omega
    · intro l hl
      simp only [stV, List.mem_map] at hl
      obtain ⟨n, hn, rfl⟩ := hl
      have := r5 n hn
      simp only [List.length_replicate]; omega
  · exact ⟨⟨[], []⟩, false, ⟨by simp, by simp, by simp⟩, .inr ⟨rfl, specStartOfN p a b hB (by omega) (by omega) h⟩, .inr ⟨rfl, implStartOfN p a b hB (by omega) (by omega) h⟩⟩
theorem neqT (c : Bool) : Eng.binT .neq c c = some false := by cases c <;> rfl
set_option maxHeartbeats 40000000 in
theorem fnExactStartOf (p : Pr) (a b : List Int) (hq : PrQ p) : Ev Try.prog X (.fn 10 [.ag (prR p), .im a.length (encL eI a), .im b.length (encL eI b)] (bl true) [.dead, .dead, .dead]) := by
  obtain ⟨r, hS, hle, hPB⟩ := szProg (X := X) p 1048576 (by omega) (by omega) hq.l hq.s hq.a hq.b hq.e
  refine Ev.fnW (env := [(0, .ag (prR p)), (1, .im a.length (encL eI a)), (2, .im b.length (encL eI b))]) Try.func10 rfl nm_laws_FnExactStartOf rfl rfl (by kernel_rfl) (.cons rfl (.cons rfl (.cons rfl .nil))) ?_
  refine go3 ?_
  refine WO.cmp rfl rfl rfl rfl rfl (fun ha => ?_) (fun ha => ?_)
  · refine go3 ?_
    exact retV rfl rfl rfl rfl
  refine go3 ?_
  refine WO.cmp rfl rfl rfl rfl rfl (fun hb => ?_) (fun hb => ?_)
  · refine go3 ?_
    exact retV rfl rfl rfl rfl
  refine go3 ?_
  refine WO.call rfl rfl rfl hS rfl rfl ?_
  by_cases hr : r < 0
  · refine go3 ?_
    exact retV rfl rfl rfl rfl
  have hB := hPB (by omega)
  obtain ⟨v, ok, ⟨l1, l2, l3⟩, hs, hi⟩ := startBoth (X := X) p a b hB (by omega) (by omega)
  have hT := totI_le l3
  have cV := markEnv (X := X) v 1 (by omega) (by omega) (fun l hl => by have := l3 l hl; omega) (by omega)
  have cH := heldEnv (X := X) v 1 (by omega) (by omega) (by omega)
  have cQ := eqEnv (X := X) v l1 l2 l3
  have hm0 : 0 ≤ 1 + (v.vars.length : Int) + totI v.cells ∧ 1 + (v.vars.length : Int) + totI v.cells ≤ 4611686018427387904 := by omega
  obtain ⟨m, hm⟩ : ∃ m, m = 1 + (v.vars.length : Int) + totI v.cells := ⟨_, rfl⟩
  rw [← hm] at cV cH hm0
  have cP := toProg (X := X) p hB
  have cE := eqProg (X := X) p hB
  have cA := toInt64S (X := X) a (by omega)
  have cC := toInt64S (X := X) b (by omega)
  have hk0 := mkS_nn p.body
  have hk1 := mkS_le hB.e
  have cM := markProg (X := X) p 1 hB (by omega) (by omega)
  have hb1 := hB.l; have hb2 := hB.s; have hb3 := hB.a; have hb4 := hB.b
  obtain ⟨M, hM⟩ : ∃ M : Int, M = 1 + 2 * p.lows.length + 2 * p.secs.length + p.arrs.length + mkS p.body := ⟨_, rfl⟩
  rw [← hM] at cM
  have hM0 : 0 ≤ M ∧ M ≤ 1099511627776000 := by omega
  clear hPB hS hM hk0 hk1 hb1 hb2 hb3 hb4 hT hm l1 l2 l3
  refine go3 ?_
  refine WO.call rfl rfl rfl cP rfl rfl ?_
  refine go3 ?_
  refine WO.call rfl rfl rfl cA rfl rfl ?_
  refine go3 ?_
  refine WO.call rfl rfl rfl cC rfl rfl ?_
  refine WO.hardPr (r := 33) rfl ?_
  refine WO.callSt (v := v) (ok := ok) rfl (.ag (FrzL.plains rfl) (.cons (frz1 rfl rfl) (.cons (frz1 rfl rfl) .nil))) hs rfl ?_
  refine WO.mvR rfl (.move _) rfl rfl rfl ?_
  refine WO.extR rfl rfl rfl rfl rfl ?_
  refine WO.extR rfl rfl rfl rfl rfl ?_
  refine go3 ?_
  refine WO.stG (vs := enO v) rfl rfl rfl (takeAgQ (r := 38) (p := [0]) (cs := enO v) rfl (whL_enO _) rfl) rfl rfl rfl rfl ?_
  refine WO.hard (r := 8) (p := [0]) (x := ints v.vars) (y := .op [.im v.vars.length (encL eI v.vars), .ow 25 1 v.cells.length (encL (eO 2 1 eI) v.cells)]) rfl rfl (by simp only [Eng.hard, hardL_pl (encL_pl (f := eI) _)]; rfl) ?_
  refine WO.hard (r := 8) (p := [1]) (x := .ow 25 1 v.cells.length (encL (eO 2 1 eI) v.cells)) (y := .op (enR v)) rfl rfl (by simp only [Eng.hard, hardL_eO]; rfl) ?_
  refine WO.keep (e' := [(1, .im a.length (encL eI a)), (2, .im b.length (encL eI b)), (3, .op (prR p)), (8, .op (enR v)), (40, bl ok)]) (.cons rfl (.cons rfl (.cons rfl (.cons rfl (.cons rfl .nil))))) ?_
  refine go3 ?_
  refine WO.call rfl rfl rfl cP rfl rfl ?_
  refine go3 ?_
  refine WO.stG (vs := prO p) rfl rfl rfl (takeAgQ (r := 42) (p := []) (cs := prO p) rfl (whL_prO p) rfl) rfl rfl rfl rfl ?_
  refine go3 ?_
  refine WO.call rfl rfl rfl cA rfl rfl ?_
  refine go3 ?_
  refine WO.call rfl rfl rfl cC rfl rfl ?_
  refine go3 ?_
  refine WO.q rfl (QE.ldG rfl rfl rfl (L := prV 10 [] p) rfl) rfl rfl ?_
  refine go3 ?_
  refine WO.callSt (v := v) (ok := ok) rfl (frzPr rfl rfl rfl rfl (.cons (frz1 rfl rfl) (.cons (frz1 rfl rfl) .nil))) hi rfl ?_
  refine WO.mvR rfl (.move _) rfl rfl rfl ?_
  refine WO.extR rfl rfl rfl rfl rfl ?_
  refine WO.extR rfl rfl rfl rfl rfl ?_
  refine go3 ?_
  refine WO.stG (vs := enO v) rfl rfl rfl (takeAgQ (r := 51) (p := [0]) (cs := enO v) rfl (whL_enO _) rfl) rfl rfl rfl rfl ?_
  refine WO.keep (e' := [(1, .im a.length (encL eI a)), (2, .im b.length (encL eI b)), (3, .op (prR p)), (8, .op (enR v)), (9, bl ok), (10, .op (prO p)), (11, ints a), (12, ints b), (13, .op (enO v)), (53, bl ok)]) (.cons rfl (.cons rfl (.cons rfl (.cons rfl (.cons rfl (.cons rfl (.cons rfl (.cons rfl (.cons rfl (.cons rfl .nil)))))))))) ?_
  refine go3 ?_
  refine WO.q rfl (QE.ldG rfl rfl rfl (L := [.vw 13 [0] 0 v.vars.length, .vw 13 [1] 0 v.cells.length]) rfl) rfl rfl ?_
  refine go3 ?_
  refine WO.callF rfl (frzEn rfl rfl rfl rfl (.ag (FrzL.plains rfl) .nil)) cQ rfl rfl rfl ?_
  refine go3 ?_
  refine WO.q rfl (QE.binT (c := false) (by kernel_rfl) rfl rfl (neqT ok)) rfl rfl ?_
  refine go3 ?_
  refine WC.keep (e' := [(1, .im a.length (encL eI a)), (2, .im b.length (encL eI b)), (3, .op (prR p)), (8, .op (enR v)), (9, bl ok), (10, .op (prO p)), (11, ints a), (12, ints b), (13, .op (enO v)), (14, bl ok)]) (.cons rfl (.cons rfl (.cons rfl (.cons rfl (.cons rfl (.cons rfl (.cons rfl (.cons rfl (.cons rfl (.cons rfl .nil)))))))))) ?_
  refine WC.regionDd ⟨[[], [], [1], [0, 1, 2], [0, 1, 2, 3]], [0, 1, 2, 4], [], [63, 64, 65, 67], [0, 1, 2, 3, 4], [([64, 65], [64, 65], false), ([63], [63], false), ([63], [63], false), ([], [], false), ([], [], false)]⟩ (by kernel_rfl) ?_
  refine WD.q rfl rfl rfl rfl rfl (QE.ldG rfl rfl rfl (L := prV 10 [] p) rfl) rfl rfl rfl ?_
  refine go3 ?_
  refine WD.q rfl rfl rfl rfl rfl (QE.call rfl rfl cP) rfl rfl rfl ?_
  refine go3 ?_
  refine WO.hardPr (r := 65) rfl ?_
  refine WO.callF rfl (frzPr rfl rfl rfl rfl (.ag (FrzL.plains rfl) .nil)) cE rfl rfl rfl ?_
  refine go3 ?_
  refine WO.call rfl rfl rfl cA rfl rfl ?_
  refine WO.callF rfl (.cons (frz1 rfl rfl) (.cons (frz1 rfl rfl) .nil)) (eqInt64S a a (by omega) (r := true) (by simp)) rfl rfl rfl ?_
  refine go3 ?_
  refine WO.call rfl rfl rfl cC rfl rfl ?_
  refine WO.callF rfl (.cons (frz1 rfl rfl) (.cons (frz1 rfl rfl) .nil)) (eqInt64S b b (by omega) (r := true) (by simp)) rfl rfl rfl ?_
  refine go3 ?_
  refine WO.keep (e' := [(1, .im a.length (encL eI a)), (2, .im b.length (encL eI b)), (3, .op (prR p)), (8, .op (enR v)), (9, bl ok), (10, .op (prO p)), (11, ints a), (12, ints b), (13, .op (enO v)), (14, bl ok), (15, i64 1)]) (.cons rfl (.cons rfl (.cons rfl (.cons rfl (.cons rfl (.cons rfl (.cons rfl (.cons rfl (.cons rfl (.cons rfl (.cons rfl .nil))))))))))) ?_
  refine WO.q rfl (QE.ldG rfl rfl rfl (L := prV 10 [] p) rfl) rfl rfl ?_
  refine go3 ?_
  refine WO.callG (xs := [.tmp 79]) rfl rfl (takeFpr rfl) rfl rfl cM rfl (noIm_prM p 1) rfl rfl rfl rfl ?_
  refine go3 ?_
  refine WO.callR (xs := [.tmp 82]) rfl rfl rfl (encL_length _) rfl rfl (markInt64S a M (by omega) (by omega)) rfl (by simp only [noIm, noIm_eI]) rfl rfl rfl rfl ?_
  refine go3 ?_
  refine WO.callR (xs := [.tmp 85]) rfl rfl rfl (encL_length _) rfl rfl (markInt64S b (M + a.length) (by omega) (by omega)) rfl (by simp only [noIm, noIm_eI]) rfl rfl rfl rfl ?_
  refine go3 ?_
  refine WO.keep (e' := [(1, .im a.length (encL eI a)), (2, .im b.length (encL eI b)), (3, .op (prR p)), (8, .op (enR v)), (9, bl ok), (13, .op (enO v)), (14, bl ok), (88, bl false), (89, bl false)]) (.cons rfl (.cons rfl (.cons rfl (.cons rfl (.cons rfl (.cons rfl (.cons rfl (.cons rfl (.cons rfl .nil))))))))) ?_
  refine WO.q rfl (QE.ldG rfl rfl rfl (L := [.vw 13 [0] 0 v.vars.length, .vw 13 [1] 0 v.cells.length]) rfl) rfl rfl ?_
  refine go3 ?_
  refine WO.callF rfl (frzEn rfl rfl rfl rfl (.ag (FrzL.plains rfl) .nil)) cQ rfl rfl rfl ?_
  refine go3 ?_
  refine WO.q rfl (QE.binT (c := false) (by kernel_rfl) rfl rfl (neqT ok)) rfl rfl ?_
  refine go3 ?_
  refine WO.keep (e' := [(1, .im a.length (encL eI a)), (2, .im b.length (encL eI b)), (3, .op (prR p)), (8, .op (enR v)), (9, bl ok), (13, .op (enO v)), (16, i64 1)]) (.cons rfl (.cons rfl (.cons rfl (.cons rfl (.cons rfl (.cons rfl (.cons rfl .nil))))))) ?_
  refine WO.q rfl (QE.ldG rfl rfl rfl (L := [.vw 13 [0] 0 v.vars.length, .vw 13 [1] 0 v.cells.length]) rfl) rfl rfl ?_
  refine go3 ?_
  refine WO.callGB (xs := [.tmp 101]) rfl rfl (takeFen rfl) rfl rfl cV rfl (noIm_enM v 1) rfl rfl (back2 rfl) rfl rfl ?_
  refine go3 ?_
  refine WO.q rfl (QE.ldG rfl rfl rfl (L := [.vw 13 [0] 0 v.vars.length, .vw 13 [1] 0 v.cells.length]) rfl) rfl rfl ?_
  refine go3 ?_
  refine WO.callF rfl (frzEn (v := mkV v 1) (markI_len _ _) (markII_len _ _) rfl rfl (.cons (.plain _ rfl) .nil)) cH rfl rfl rfl ?_
  refine go3 ?_
  refine WO.keep (e' := [(1, .im a.length (encL eI a)), (2, .im b.length (encL eI b)), (8, .op (enR v)), (9, bl ok), (13, .op (enM v 1)), (16, i64 m), (112, .ag (prR p))]) (.cons rfl (.cons rfl (.cons rfl (.cons rfl (.cons rfl (.cons rfl (.cons rfl .nil))))))) ?_
  refine WO.call rfl rfl rfl cP rfl rfl ?_
  refine WO.hardPr (r := 113) rfl ?_
  refine go3 ?_
  refine WO.call rfl rfl rfl cA rfl rfl ?_
  refine go3 ?_
  refine WO.call rfl rfl rfl cC rfl rfl ?_
  refine WO.callSt (v := v) (ok := ok) rfl (.ag (FrzL.plains rfl) (.cons (frz1 rfl rfl) (.cons (frz1 rfl rfl) .nil))) hi rfl ?_
  refine WO.mvR rfl (.move _) rfl rfl rfl ?_
  refine WO.extR rfl rfl rfl rfl rfl ?_
  refine WO.extR rfl rfl rfl rfl rfl ?_
  refine go3 ?_
  refine WO.stG (vs := enO v) rfl rfl rfl (takeAgQ (r := 118) (p := [0]) (cs := enO v) rfl (whL_enO _) rfl) rfl rfl rfl rfl ?_
  refine WO.keep (e' := [(8, .op (enR v)), (9, bl ok), (13, .op (enM v 1)), (16, i64 m), (18, .op (enO v)), (120, bl ok)]) (.cons rfl (.cons rfl (.cons rfl (.cons rfl (.cons rfl (.cons rfl .nil)))))) ?_
  refine go3 ?_
  refine WO.q rfl (QE.ldG rfl rfl rfl (L := [.vw 18 [0] 0 v.vars.length, .vw 18 [1] 0 v.cells.length]) rfl) rfl rfl ?_
  refine go3 ?_
  refine WO.callF rfl (frzEn rfl rfl rfl rfl (.ag (FrzL.plains rfl) .nil)) cQ rfl rfl rfl ?_
  refine go3 ?_
  refine WO.q rfl (QE.binT (c := false) (by kernel_rfl) rfl rfl (neqT ok)) rfl rfl ?_
  refine go3 ?_
  refine WO.q rfl (QE.ldG rfl rfl rfl (L := [.vw 13 [0] 0 v.vars.length, .vw 13 [1] 0 v.cells.length]) rfl) rfl rfl ?_
  refine go3 ?_
  refine WO.callF rfl (frzEn (v := mkV v 1) (markI_len _ _) (markII_len _ _) rfl rfl (.cons (.plain _ rfl) .nil)) cH rfl rfl rfl ?_
  refine go3 ?_
  exact retV rfl rfl rfl rfl
theorem fnExactStartOfW (p : Pr) (h : PrQ p) (a : List Int) (ha : a.length ≤ 9223372036854775807 ∧ ∀ x ∈ a, (Lit.int .i64 x).wf = true) (b : List Int) (hb : b.length ≤ 9223372036854775807 ∧ ∀ x ∈ b, (Lit.int .i64 x).wf = true) : Ev Try.prog X (.fn 10 [.ag (prR p), .im a.length (encL eI a), .im b.length (encL eI b)] (bl true) [.dead, .dead, .dead]) := fnExactStartOf p a b h
end Go.Eng.C
