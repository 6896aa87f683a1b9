/- The engine, part Yc: several results; a longer script. -/
import Derived.Test.YtdihagagelngiaaEngYb
namespace Go.Eng
open Go Go.RowKit
set_option linter.unusedVariables false
set_option linter.unusedSimpArgs false
theorem refL_plA {r : Nat} : ∀ {cs : List AV} {p : List Nat} {i : Nat}, cs.all isPlA = true → refL r p i cs = cs
  | [], p, i, h => rfl
  | c :: cs, p, i, h => by
    simp only [List.all_cons, Bool.and_eq_true] at h
    simp only [refL, refL_plA h.2]
    congr 1
    have h1 := h.1
    cases c
    case ag ds => simp only [isPlA] at h1; simp only [refT, refL_pl h1]
    all_goals exact refT_pl (by simpa only [isPlA] using h1)
section
variable {P : Program} {X : FuncId → List AV → AV → List AV → Prop} {env : Env} {g : Option (Nat × Bool)} {d t i : Nat} {ty : TypeId} {pos : String} {af : Array Edge} {op : Op}
theorem QE.mvTu {cs : List AV} (hop : MV op (.tmp t)) (ht : Nat.blt t HB = true) (hx : look env t = .tu cs) (hp : cs.all isPlA = true) : Ev P X (.qe ⟨some d, op, ty, pos, af, g⟩ (look env) (.tu cs)) :=
  .qo (by have := hop.qo (P := P) (env := env); rwa [show ov (look env) (.tmp t) = .tu cs by simp only [ov, ht, cond_true, hx, refT, refL_plA hp]] at this)
theorem QE.ext {cs : List AV} {c : AV} (ht : Nat.blt t HB = true) (hx : look env t = .tu cs) (hp : cs.all isPlA = true) (hc : cs[i]? = some c) : Ev P X (.qe ⟨some d, .extract (.tmp t) i, ty, pos, af, g⟩ (look env) c) :=
  .qo (.extract (.tmp t) i cs c (by simp only [ov, ht, cond_true, hx, refT, refL_plA hp]) hc)
/-- A struct at the head of what is only read. -/
theorem QE.ldIA' {x : Operand} {tx s : Nat} {cs rest : List AV} [hT : AgT P tx s] (hx : ov (look env) x = .ip (cs ++ rest)) (hl : cs.length = s) : Ev P X (.qe ⟨some d, .load tx x, ty, pos, af, g⟩ (look env) (.ag cs)) := QE.ldIA hx hl
end
section
variable {P : Program} {X : FuncId → List AV → AV → List AV → Prop} {env : Env} {t t2 n : Nat} {ex : Ex} {res : AV} {fin : List AV}
/-- Two plain values are handed back. -/
theorem retVV {v u : Value} (hx : ov (look env) (.tmp t) = .sc v) (hy : ov (look env) (.tmp t2) = .sc u) (hr : .tu [.sc v, .sc u] = res) (hf : fins n (look env) = fin) (hn : fin.all noRf = true) (he : ex = .normal ∨ ex = .ret := by simp) :
    (ex = .normal ∨ ex = .ret) ∧ ∃ as rs σ2, ResL P (look env) [.tmp t, .tmp t2] as ∧ TakeL (look env) as rs σ2 ∧ resOf rs = res ∧ fins n σ2 = fin ∧ fin.all noRf = true := by
  refine ⟨he, _, [.sc v, .sc u], look env, .tmp t (.tmp t2 .nil), ?_, hr, hf, hn⟩
  rw [hx, hy]; exact .plain rfl (.plain rfl (.nil _))
/-- A slice that is owned, and a plain value. -/
theorem retOVE {e sz m r : Nat} {cs : List AV} {u : Value} {G : AV → List AV → Prop} (hx : ov (look env) (.tmp t) = .vw r [] 0 m) (hr : look env r = .ow e sz m cs) (hl : cs.length = m * sz) (hy : ov (look env) (.tmp t2) = .sc u) (hf : fins n (look ((r, .dead) :: env)) = fin) (hn : fin.all noRf = true) (hG : G (.tu [.ow e sz m cs, .sc u]) fin) (he : ex = .normal ∨ ex = .ret := by simp) :
    (ex = .normal ∨ ex = .ret) ∧ ∃ as rs σ2, ResL P (look env) [.tmp t, .tmp t2] as ∧ TakeL (look env) as rs σ2 ∧ (fins n σ2).all noRf = true ∧ G (resOf rs) (fins n σ2) := by
  subst hf
  refine ⟨he, _, [.ow e sz m cs, .sc u], look ((r, .dead) :: env), .tmp t (.tmp t2 .nil), ?_, hn, hG⟩
  rw [hx, hy]
  exact tkV hr hl (.plain rfl (.nil _))
/-- Two plain values, told by a property. -/
theorem retPPE {a b : AV} {G : AV → List AV → Prop} (hx : ov (look env) (.tmp t) = a) (hy : ov (look env) (.tmp t2) = b) (ha : isPl a = true) (hb : isPl b = true) (hf : fins n (look env) = fin) (hn : fin.all noRf = true) (hG : G (.tu [a, b]) fin) (he : ex = .normal ∨ ex = .ret := by simp) :
    (ex = .normal ∨ ex = .ret) ∧ ∃ as rs σ2, ResL P (look env) [.tmp t, .tmp t2] as ∧ TakeL (look env) as rs σ2 ∧ (fins n σ2).all noRf = true ∧ G (resOf rs) (fins n σ2) := by
  subst hf
  refine ⟨he, _, [a, b], look env, .tmp t (.tmp t2 .nil), ?_, hn, hG⟩
  rw [hx, hy]; exact .plain ha (.plain hb (.nil _))
/-- A struct of plain parts, out of a variable, and a plain value. -/
theorem retCVE {ty s : Nat} {cs : List AV} {u : Value} {G : AV → List AV → Prop} [hT : AgT P ty s] (ht : Nat.blt t HB = true) (hx : look env t = .op cs) (hl : Nat.beq cs.length s = true) (hp : cs.all isPl = true) (hy : ov (look env) (.tmp t2) = .sc u) (hf : fins n (look env) = fin) (hn : fin.all noRf = true) (hG : G (.tu [.ag cs, .sc u]) fin) (he : ex = .normal ∨ ex = .ret := by simp) :
    (ex = .normal ∨ ex = .ret) ∧ ∃ as rs σ2, ResL P (look env) [.cell t ty, .tmp t2] as ∧ TakeL (look env) as rs σ2 ∧ (fins n σ2).all noRf = true ∧ G (resOf rs) (fins n σ2) := by
  subst hf
  have hl := Nat.eq_of_beq_eq_true hl
  refine ⟨he, _, [.ag cs, .sc u], look env, .cell t ty (.many cs s hT.ht hT.hs hl hT.h0 fun k hk => ?_) (.tmp t2 .nil), ?_, hn, hG⟩
  · have hk' : k < cs.length := by omega
    simp only [ov, ht, cond_true, hx, refT, cell, nodeCells, getN, Option.bind_some, Nat.zero_add]
    rw [List.getElem?_eq_getElem hk', Option.map_some, refT_pl (List.all_eq_true.1 hp _ (List.getElem_mem _))]
  · rw [hy]; exact .ag (TakeL.pls hp) (.plain rfl (.nil _))
end
/-- The same with more rules: several results, new variables, structs read and stored. -/
theorem go2 {p q : Prop} (k : q) (h : Hide q → p := by
    intro k
    repeat (first
      | (apply WO.q2
         exact rfl
         (first
          | exact QE.mvSc (.move _) rfl
          | exact QE.ldO rfl rfl rfl rfl
          | exact QE.flO rfl rfl
          | exact QE.mvSc (.assign _) rfl
          | exact QE.ldI rfl rfl
          | exact QE.flI rfl
          | exact QE.mvAd (.move _) rfl
          | exact QE.mvIm (.move _) rfl
          | exact QE.len rfl
          | exact QE.cmpT rfl rfl rfl (by first | assumption | omega)
          | exact QE.cmpF rfl rfl rfl (by omega)
          | exact QE.add rfl rfl (by omega) (by omega)
          | exact QE.ldA0 rfl rfl rfl rfl
          | exact QE.ldAI rfl rfl
          | exact QE.sub rfl rfl (by omega) (by omega)
          | exact QE.nilO rfl rfl
          | exact QE.nilI rfl
          | exact QE.mvIp (.move _) rfl
          | exact QE.mvVw (.move _) rfl
          | exact QE.lenO rfl rfl
          | exact QE.not rfl
          | exact QE.pickT rfl rfl
          | exact QE.pickF rfl rfl
          | exact QE.mvNl (.move _) rfl
          | exact QE.mvAg (.move _) rfl rfl rfl
          | exact QE.mvIm (.assign _) rfl
          | exact QE.mvNl (.assign _) rfl
          | exact QE.mvIp (.assign _) rfl
          | exact QE.mvAg (.assign _) rfl rfl rfl
          | exact QE.len0 rfl
          | exact QE.mvTu (.move _) rfl rfl rfl
          | exact QE.mvTu (.assign _) rfl rfl rfl
          | exact QE.ext rfl rfl rfl rfl
          | exact QE.ldIA' rfl rfl)
         refine ⟨rfl, rfl, ?_⟩)
      | refine WO.nil ?_
      | refine WC.seq ?_
      | refine WC.region ?_
      | refine seqK.normal ?_
      | refine seqK.ret ?_
      | refine seqK.exit ?_
      | refine blkK.normal ?_
      | refine blkK.here ?_
      | refine blkK.exit rfl ?_
      | refine blkK.ret ?_
      | refine WC.block ?_
      | refine WC.skip ?_
      | refine WC.ret ?_
      | refine WC.exit ?_
      | refine lpK.exit ?_
      | refine lpK.ret ?_
      | refine WC.condT rfl ?_
      | refine WC.condF rfl ?_
      | refine WO.skip rfl rfl ?_
      | refine WO.takeOw rfl (.assign _) rfl rfl (by first | exact encL_length _ | rfl | (rw [encL_length]; simp) | simp) rfl ?_
      | refine WO.takeOp rfl (.assign _) rfl rfl rfl ?_
      | (apply WO.q2
         exact rfl
         (first | exact QE.mvAd (.assign _) rfl | exact QE.mvVw (.assign _) rfl)
         refine ⟨rfl, rfl, ?_⟩)
      | refine WO.alloc rfl rfl ?_
      | refine WO.stA rfl rfl rfl rfl rfl rfl rfl rfl rfl ?_
      | refine WO.boxA rfl rfl rfl rfl rfl ?_
      | refine WO.build0 rfl rfl rfl ?_
      | refine WDK.mk ?_
      | exact WK.mk' (by first | exact .cons _ (.nil _) | exact .cons _ (.cons _ (.nil _)) | exact .cons _ (.cons _ (.cons _ (.nil _))))
      | refine WD.nil ?_
      | (apply WD.q2
         exact rfl
         exact rfl
         exact rfl
         exact rfl
         exact rfl
         (first
          | exact QE.mvSc (.move _) rfl
          | exact QE.ldO rfl rfl rfl rfl
          | exact QE.flO rfl rfl
          | exact QE.ldI rfl rfl
          | exact QE.flI rfl
          | exact QE.mvAd (.move _) rfl
          | exact QE.mvIm (.move _) rfl
          | exact QE.len rfl
          | exact QE.cmpT rfl rfl rfl (by first | assumption | omega)
          | exact QE.cmpF rfl rfl rfl (by omega)
          | exact QE.add rfl rfl (by omega) (by omega)
          | exact QE.ldA0 rfl rfl rfl rfl
          | exact QE.ldAI rfl rfl
          | exact QE.sub rfl rfl (by omega) (by omega)
          | exact QE.nilO rfl rfl
          | exact QE.nilI rfl
          | exact QE.mvIp (.move _) rfl
          | exact QE.mvVw (.move _) rfl
          | exact QE.lenO rfl rfl
          | exact QE.not rfl
          | exact QE.pickT rfl rfl
          | exact QE.pickF rfl rfl
          | exact QE.mvNl (.move _) rfl
          | exact QE.mvAg (.move _) rfl rfl rfl
          | exact QE.len0 rfl
          | exact QE.mvTu (.move _) rfl rfl rfl
          | exact QE.ext rfl rfl rfl rfl
          | exact QE.ldIA' rfl rfl)
         refine ⟨rfl, rfl, rfl, ?_⟩)
      | refine WD.skip rfl rfl rfl rfl rfl rfl rfl ?_
      | refine WD.mut rfl rfl rfl ?_)
    exact k.out) : p := h ⟨k⟩
end Go.Eng
