/- The engine, part Y: the script that takes the plain steps. -/
import Derived.Test.YtdihagagelngiaaEngX
namespace Go.Eng
open Go Go.RowKit
set_option linter.unusedVariables false
set_option linter.unusedSimpArgs false
section
variable {P : Program} {X : FuncId → List AV → AV → List AV → Prop} {env : Env} {g : Option (Nat × Bool)} {d t : Nat} {ty : TypeId} {pos : String} {af : Array Edge} {op : Op}
theorem QE.mvIp {x : Operand} {cs : List AV} (hop : MV op x) (hx : ov (look env) x = .ip cs) : Ev P X (.qe ⟨some d, op, ty, pos, af, g⟩ (look env) (.ip cs)) := .qo (by have := hop.qo (P := P) (env := env); rwa [hx] at this)
theorem QE.mvNl {x : Operand} (hop : MV op x) (hx : ov (look env) x = .nl) : Ev P X (.qe ⟨some d, op, ty, pos, af, g⟩ (look env) .nl) := .qo (by have := hop.qo (P := P) (env := env); rwa [hx] at this)
theorem QE.mvAg {cs : List AV} (hop : MV op (.tmp t)) (ht : Nat.blt t HB = true) (hx : look env t = .ag cs) (hp : cs.all isPl = true) : Ev P X (.qe ⟨some d, op, ty, pos, af, g⟩ (look env) (.ag cs)) :=
  .qo (by have := hop.qo (P := P) (env := env); rwa [show ov (look env) (.tmp t) = .ag cs by simp only [ov, ht, cond_true, hx, refT, refL_pl hp]] at this)
theorem QE.nilI {x : Operand} {cs : List AV} (hc : ov (look env) x = .ip cs) : Ev P X (.qe ⟨some d, .nilCheck x, ty, pos, af, g⟩ (look env) (.ip cs)) := .qo (.nilCheck x (.ip cs) (by rw [hc]; rfl))
theorem QE.lenO {x : Operand} {tx e sz r off n e' sz' m : Nat} {p : List Nat} {cs : List AV} [hT : SlT P tx e sz] (hx : ov (look env) x = .vw r p off n) (hr : getN p (look env r) = some (.ow e' sz' m cs)) : Ev P X (.qe ⟨some d, .call { callee := .builtin .len, args := #[x], argTypes := #[tx] }, ty, pos, af, g⟩ (look env) (.sc (.int .i64 n))) := .qo (.lenV tx x e r off n e' sz' m p cs hT.ht hx hr)
theorem QE.len0 {x : Operand} {tx e sz : Nat} [hT : SlT P tx e sz] (hx : ov (look env) x = .nl) : Ev P X (.qe ⟨some d, .call { callee := .builtin .len, args := #[x], argTypes := #[tx] }, ty, pos, af, g⟩ (look env) (.sc (.int .i64 0))) := .qo (.lenN tx x e hT.ht hx)
theorem QE.add {x y : Operand} {tx ty2 : TypeId} {a b : Int} (hx : ov (look env) x = .sc (.int .i64 a)) (hy : ov (look env) y = .sc (.int .i64 b)) (h0 : -9223372036854775808 ≤ a + b) (h1 : a + b ≤ 9223372036854775807) : Ev P X (.qe ⟨some d, .binOp .add tx x y ty2, ty, pos, af, g⟩ (look env) (.sc (.int .i64 (a + b)))) :=
  QE.bin (v := .int .i64 (a + b)) hx hy (by simp only [bin64, w64 h0 h1]) rfl
theorem QE.sub {x y : Operand} {tx ty2 : TypeId} {a b : Int} (hx : ov (look env) x = .sc (.int .i64 a)) (hy : ov (look env) y = .sc (.int .i64 b)) (h0 : -9223372036854775808 ≤ a - b) (h1 : a - b ≤ 9223372036854775807) : Ev P X (.qe ⟨some d, .binOp .sub tx x y ty2, ty, pos, af, g⟩ (look env) (.sc (.int .i64 (a - b)))) :=
  QE.bin (v := .int .i64 (a - b)) hx hy (by simp only [bin64, w64 h0 h1]) rfl
theorem QE.cmpT {o : BinOp} {x y : Operand} {tx ty2 : TypeId} {a b : Int} {p : Prop} [Decidable p] (hx : ov (look env) x = .sc (.int .i64 a)) (hy : ov (look env) y = .sc (.int .i64 b)) (h : bin64 o a b = some (.bool (decide p))) (hp : p) : Ev P X (.qe ⟨some d, .binOp o tx x y ty2, ty, pos, af, g⟩ (look env) (.sc (.bool true))) :=
  QE.bin hx hy (by rw [h]; simp only [hp, decide_true]) rfl
theorem QE.cmpF {o : BinOp} {x y : Operand} {tx ty2 : TypeId} {a b : Int} {p : Prop} [Decidable p] (hx : ov (look env) x = .sc (.int .i64 a)) (hy : ov (look env) y = .sc (.int .i64 b)) (h : bin64 o a b = some (.bool (decide p))) (hp : ¬ p) : Ev P X (.qe ⟨some d, .binOp o tx x y ty2, ty, pos, af, g⟩ (look env) (.sc (.bool false))) :=
  QE.bin hx hy (by rw [h]; simp only [hp, decide_false]) rfl
/-- A whole variable, a struct of plain parts. -/
theorem QE.ldA0 {x : Operand} {tx s r : Nat} {cs : List AV} [hT : AgT P tx s] (hx : ov (look env) x = .ad r [] 0) (hr : look env r = .op cs) (hl : Nat.beq cs.length s = true) (hp : cs.all isPl = true) : Ev P X (.qe ⟨some d, .load tx x, ty, pos, af, g⟩ (look env) (.ag cs)) := by
  have hl := Nat.eq_of_beq_eq_true hl
  refine .qo (.load tx x (.ag cs) (.many cs s hT.ht hT.hs hl hT.h0 fun k hk => ?_))
  have hk' : k < cs.length := by omega
  rw [hx]
  simp only [cell, nodeCells, getN, hr, Option.bind_some, Nat.zero_add, List.getElem?_eq_getElem hk', Option.map_some, refT_pl (List.all_eq_true.1 hp _ (List.getElem_mem _))]
theorem QE.ldAI {x : Operand} {tx s : Nat} {cs : List AV} [hT : AgT P tx s] (hx : ov (look env) x = .ip cs) (hl : Nat.beq cs.length s = true) : Ev P X (.qe ⟨some d, .load tx x, ty, pos, af, g⟩ (look env) (.ag cs)) := by
  have hl := Nat.eq_of_beq_eq_true hl
  exact .qo (.load tx x (.ag cs) (.many cs s hT.ht hT.hs hl hT.h0 fun k hk => by rw [hx]; rfl))
theorem QE.bld {tx : TypeId} {parts : Array (Nat × Operand)} {cs : List AV} (hb : builtA P tx (parts.toList.map fun x => (x.1, ov (look env) x.2)) = some cs) : Ev P X (.qe ⟨some d, .build tx parts, ty, pos, af, g⟩ (look env) (.ag cs)) := .qo (.build tx parts cs hb)
theorem QE.pick {c x y : Operand} {b : Bool} {av : AV} (hc : ov (look env) c = .sc (.bool b)) (hx : (bif b then ov (look env) x else ov (look env) y) = av) : Ev P X (.qe ⟨some d, .pick c x y, ty, pos, af, g⟩ (look env) av) := .qo (hx ▸ .pick c x y b hc)
theorem QE.pickT {c x y : Operand} {v : Value} (hc : ov (look env) c = .sc (.bool true)) (hx : ov (look env) x = .sc v) : Ev P X (.qe ⟨some d, .pick c x y, ty, pos, af, g⟩ (look env) (.sc v)) := QE.pick (b := true) hc hx
theorem QE.pickF {c x y : Operand} {v : Value} (hc : ov (look env) c = .sc (.bool false)) (hx : ov (look env) y = .sc v) : Ev P X (.qe ⟨some d, .pick c x y, ty, pos, af, g⟩ (look env) (.sc v)) := QE.pick (b := false) hc hx
/-- A comparison. -/
theorem QE.cmp {o : BinOp} {x y : Operand} {tx ty2 : TypeId} {a b : Int} {p : Prop} [Decidable p] (q : Bool) (hx : ov (look env) x = .sc (.int .i64 a)) (hy : ov (look env) y = .sc (.int .i64 b)) (h : bin64 o a b = some (.bool (decide p))) (hq : q = true ↔ p) : Ev P X (.qe ⟨some d, .binOp o tx x y ty2, ty, pos, af, g⟩ (look env) (.sc (.bool q))) := by
  have e : decide p = q := by by_cases hp : p <;> cases q <;> simp_all
  rw [e] at h
  exact QE.bin hx hy h rfl
end
section
variable {P : Program} {X : FuncId → List AV → AV → List AV → Prop} {all : Array Oper} {R : (Nat → AV) → Prop} {env : Env} {g : Option (Nat × Bool)} {d t : Nat} {l : List Oper} {ty : TypeId} {pos : String} {af : Array Edge} {op : Op} {av : AV}
/-- What comes behind a quiet step. -/
structure WOn (P : Program) (X : FuncId → List AV → AV → List AV → Prop) (all : Array Oper) (l : List Oper) (R : (Nat → AV) → Prop) (d : Nat) (env : Env) (av : AV) : Prop where
  h1 : nrE d env = true
  h2 : nrA d av = true
  k : WO P X all l (look ((d, av) :: env)) R
theorem WO.q2 (hg : gg all (look env) g = some true) (h : Ev P X (.qe ⟨some d, op, ty, pos, af, g⟩ (look env) av)) (k : WOn P X all l R d env av) : WO P X all (⟨some d, op, ty, pos, af, g⟩ :: l) (look env) R := WO.q hg h k.h1 k.h2 k.k
end
section
variable {P : Program} {X : FuncId → List AV → AV → List AV → Prop} {all : Array Oper} {R : (Nat → AV) → Prop} {env : Env} {g : Option (Nat × Bool)} {d t : Nat} {l : List Oper} {ty : TypeId} {pos : String} {af : Array Edge}
/-- A slice that is owned is handed back. -/
theorem retOE {n e sz m r : Nat} {cs : List AV} {fin : List AV} {ex : Ex} {G : AV → List AV → Prop} (hx : ov (look env) (.tmp t) = .vw r [] 0 m) (hr : look env r = .ow e sz m cs) (hl : cs.length = m * sz) (hf : fins n (look ((r, .dead) :: env)) = fin) (hn : fin.all noRf = true) (hG : G (.ow e sz m cs) fin) (he : ex = .normal ∨ ex = .ret := by simp) :
    (ex = .normal ∨ ex = .ret) ∧ ∃ as rs σ2, ResL P (look env) [.tmp t] as ∧ TakeL (look env) as rs σ2 ∧ (fins n σ2).all noRf = true ∧ G (resOf rs) (fins n σ2) := by
  subst hf
  refine ⟨he, _, [.ow e sz m cs], look ((r, .dead) :: env), .tmp t .nil, ?_, hn, hG⟩
  rw [hx]
  have := TakeL.vw (σ := look env) (σ' := setS (look env) r [] .dead) (r := r) (n := m) (p := []) (e := e) (sz := sz) (m := m) (cs := cs) (as := []) (ts := []) (by simp [getN, hr]) (Nat.le_refl _) (.nil _)
  rw [List.take_of_length_le (by omega)] at this
  have e2 : setS (look env) r [] .dead = look ((r, .dead) :: env) := by rw [← look_upd]; rfl
  rwa [e2] at this
/-- A nil slice stands in for an empty one that is only read. -/
theorem WO.castI {r : Nat} {p : List Nat} {y : AV} (hn : getN p (look env r) = some .nl) (hy : setN p (look env r) (.im 0 []) = y) (k : WO P X all l (look ((r, y) :: env)) R) : WO P X all l (look env) R := by
  subst hy
  obtain ⟨σ2, h1, h2⟩ := k
  refine ⟨σ2, .opsCast (r := r) (p := p) hn .im ?_, h2⟩
  rw [setS_look]; exact h1
end
structure Hide (q : Prop) : Prop where
  out : q
/-- Plain steps are taken; what is left is shown. -/
theorem go {p q : Prop} (k : q) (h : Hide q → p := by
    intro k
    repeat (first
      | (apply WO.q2
         exact rfl
         (first
          | exact QE.mvSc (.move _) rfl
          | exact QE.ldO rfl rfl rfl rfl
          | exact QE.flO rfl rfl
          | exact QE.mvSc (.assign _) rfl
          | exact QE.ldI rfl rfl
          | exact QE.flI rfl
          | exact QE.mvAd (.move _) rfl
          | exact QE.mvIm (.move _) rfl
          | exact QE.len rfl
          | exact QE.cmpT rfl rfl rfl (by first | assumption | omega)
          | exact QE.cmpF rfl rfl rfl (by omega)
          | exact QE.add rfl rfl (by omega) (by omega)
          | exact QE.ldA0 rfl rfl rfl rfl
          | exact QE.ldAI rfl rfl
          | exact QE.sub rfl rfl (by omega) (by omega)
          | exact QE.nilO rfl rfl
          | exact QE.nilI rfl
          | exact QE.mvIp (.move _) rfl
          | exact QE.mvVw (.move _) rfl
          | exact QE.lenO rfl rfl
          | exact QE.not rfl
          | exact QE.pickT rfl rfl
          | exact QE.pickF rfl rfl
          | exact QE.mvNl (.move _) rfl
          | exact QE.mvAg (.move _) rfl rfl rfl
          | exact QE.mvIm (.assign _) rfl
          | exact QE.mvNl (.assign _) rfl
          | exact QE.mvIp (.assign _) rfl
          | exact QE.mvAg (.assign _) rfl rfl rfl
          | exact QE.len0 rfl)
         refine ⟨rfl, rfl, ?_⟩)
      | refine WO.nil ?_
      | refine WC.seq ?_
      | refine WC.region ?_
      | refine seqK.normal ?_
      | refine seqK.ret ?_
      | refine seqK.exit ?_
      | refine blkK.normal ?_
      | refine blkK.here ?_
      | refine blkK.exit rfl ?_
      | refine blkK.ret ?_
      | refine WC.block ?_
      | refine WC.skip ?_
      | refine WC.ret ?_
      | refine WC.exit ?_
      | refine lpK.exit ?_
      | refine lpK.ret ?_
      | refine WC.condT rfl ?_
      | refine WC.condF rfl ?_
      | refine WO.skip rfl rfl ?_
      | refine WO.takeOw rfl (.assign _) rfl rfl (by first | exact encL_length _ | rfl | (rw [encL_length]; simp) | simp) rfl ?_
      | refine WO.takeOp rfl (.assign _) rfl rfl rfl ?_
      | (apply WO.q2
         exact rfl
         (first | exact QE.mvAd (.assign _) rfl | exact QE.mvVw (.assign _) rfl)
         refine ⟨rfl, rfl, ?_⟩)
      | refine WDK.mk ?_
      | exact WK.mk' (by first | exact .cons _ (.nil _) | exact .cons _ (.cons _ (.nil _)) | exact .cons _ (.cons _ (.cons _ (.nil _))))
      | refine WD.nil ?_
      | (apply WD.q2
         exact rfl
         exact rfl
         exact rfl
         exact rfl
         exact rfl
         (first
          | exact QE.mvSc (.move _) rfl
          | exact QE.ldO rfl rfl rfl rfl
          | exact QE.flO rfl rfl
          | exact QE.ldI rfl rfl
          | exact QE.flI rfl
          | exact QE.mvAd (.move _) rfl
          | exact QE.mvIm (.move _) rfl
          | exact QE.len rfl
          | exact QE.cmpT rfl rfl rfl (by first | assumption | omega)
          | exact QE.cmpF rfl rfl rfl (by omega)
          | exact QE.add rfl rfl (by omega) (by omega)
          | exact QE.ldA0 rfl rfl rfl rfl
          | exact QE.ldAI rfl rfl
          | exact QE.sub rfl rfl (by omega) (by omega)
          | exact QE.nilO rfl rfl
          | exact QE.nilI rfl
          | exact QE.mvIp (.move _) rfl
          | exact QE.mvVw (.move _) rfl
          | exact QE.lenO rfl rfl
          | exact QE.not rfl
          | exact QE.pickT rfl rfl
          | exact QE.pickF rfl rfl
          | exact QE.mvNl (.move _) rfl
          | exact QE.mvAg (.move _) rfl rfl rfl
          | exact QE.len0 rfl)
         refine ⟨rfl, rfl, rfl, ?_⟩)
      | refine WD.skip rfl rfl rfl rfl rfl rfl rfl ?_
      | refine WD.mut rfl rfl rfl ?_)
    exact k.out) : p := h ⟨k⟩
end Go.Eng
