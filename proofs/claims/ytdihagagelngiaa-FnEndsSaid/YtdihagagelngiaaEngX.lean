/- The engine, part X: numbers of all kinds: arithmetic, bits, shifts, conversions. -/
import Derived.Test.YtdihagagelngiaaEngW
namespace Go.Eng
open Go Go.RowKit
set_option linter.unusedVariables false
set_option linter.unusedSimpArgs false
/-- What two numbers of one kind give. -/
def binG (op : BinOp) (k : IntKind) (a b : Int) : Option Value :=
  match op with
  | .add => some (.int k (k.wrap (a + b)))
  | .sub => some (.int k (k.wrap (a - b)))
  | .mul => some (.int k (k.wrap (a * b)))
  | .quo => if b = 0 then none else some (.int k (k.wrap (a.tdiv b)))
  | .rem => if b = 0 then none else some (.int k (a.tmod b))
  | .and => some (.int k (k.wrap (BitVec.ofInt k.bits a &&& BitVec.ofInt k.bits b).toNat))
  | .or => some (.int k (k.wrap (BitVec.ofInt k.bits a ||| BitVec.ofInt k.bits b).toNat))
  | .xor => some (.int k (k.wrap (BitVec.ofInt k.bits a ^^^ BitVec.ofInt k.bits b).toNat))
  | .eql => some (.bool (decide (a = b)))
  | .neq => some (.bool (decide (a ≠ b)))
  | .lss => some (.bool (decide (a < b)))
  | .leq => some (.bool (decide (a ≤ b)))
  | .gtr => some (.bool (decide (a > b)))
  | .geq => some (.bool (decide (a ≥ b)))
  | _ => none
theorem binG_run {P : Program} {op : BinOp} {k : IntKind} {a b : Int} {c : Value} (h : binG op k a b = some c) (w : World) (t : TypeId) : (binOp op t (.int k a) (.int k b)).run P w = .ok c w := by
  cases op <;> simp only [binG, reduceCtorEq, Option.some.injEq] at h
  case quo =>
    by_cases hb : b = 0
    · simp [hb] at h
    · simp only [hb, if_false, Option.some.injEq] at h; subst h; simp [binOp, Op.intDiv, hb]
  case rem =>
    by_cases hb : b = 0
    · simp [hb] at h
    · simp only [hb, if_false, Option.some.injEq] at h; subst h; simp [binOp, Op.intDiv, hb]
  all_goals subst h
  all_goals simp [binOp, Op.intArith, Op.intBits, Op.intCmp, bne, decide_not]
  all_goals rfl
section
variable {P : Program} {X : FuncId → List AV → AV → List AV → Prop} {all : Array Oper} {R : (Nat → AV) → Prop} {Q : Ex → (Nat → AV) → Prop}
variable {g : Option (Nat × Bool)} {σ : Nat → AV} {env : Env} {d t : Nat} {l : List Oper} {ty : TypeId} {pos : String} {af : Array Edge} {α : Type} {f : α → List AV}
theorem qo_binG {op : BinOp} {x y : Operand} {tx : TypeId} {k : IntKind} {a b : Int} {c : Value} (hx : ov σ x = .sc (.int k a)) (hy : ov σ y = .sc (.int k b)) (h : binG op k a b = some c) : QO P σ (.binOp op tx x y ty) (cAV c) := by
  refine .pure _ c fun ρ o w ho hρ => ?_
  have e1 := hρ x _ (by rw [hx]; rfl)
  have e2 := hρ y _ (by rw [hy]; rfl)
  have h1 := binG_run (P := P) h w tx
  have hg : (eqGuard op tx x y (.int k a) (.int k b)).run P w = .ok () w := by
    unfold eqGuard
    cases op <;> rfl
  simp only [execOp, ho, e1, e2, Sem.run_bind, hg, Result.andThen_ok, h1, Sem.run_pure]
theorem WO.binG {op : BinOp} {x y : Operand} {tx ty2 : TypeId} {k : IntKind} {a b : Int} {c : Value} (hg : gg all (look env) g = some true) (hx : ov (look env) x = .sc (.int k a)) (hy : ov (look env) y = .sc (.int k b)) (h : Eng.binG op k a b = some c) (hc : cAV c = .sc c) (hn : nrE d env = true) (k : WO P X all l (look ((d, .sc c) :: env)) R) : WO P X all (⟨some d, .binOp op tx x y ty2, ty, pos, af, g⟩ :: l) (look env) R :=
  WO.q hg (.qo (by have := qo_binG (P := P) (ty := ty2) (tx := tx) hx hy h; rwa [hc] at this)) hn rfl k
/-- A number is turned into another kind. -/
theorem qo_conv {x : Operand} {src dst : TypeId} {k k' : IntKind} {n : Int} {u : TypeDesc} (hu : P.underlying src = some u) (hd : P.underlying dst = some (.int k')) (hx : ov σ x = .sc (.int k n)) : QO P σ (.convert src dst x) (.sc (.int k' (k'.wrap n))) := by
  refine QO.pure _ (.int k' (k'.wrap n)) fun ρ o w ho hρ => ?_
  have e1 := hρ x _ (by rw [hx]; rfl)
  simp [execOp, ho, e1, convert, run_underlying hu, run_underlying hd, Conv.intToInt]
end
/-- Types of numbers. -/
class NmT (P : Program) (t : TypeId) (k : outParam IntKind) : Prop where
  h : P.underlying t = some (.int k)
section
variable {P : Program} {X : FuncId → List AV → AV → List AV → Prop} {all : Array Oper} {R : (Nat → AV) → Prop}
variable {g : Option (Nat × Bool)} {env : Env} {d t : Nat} {l : List Oper} {ty : TypeId} {pos : String} {af : Array Edge}
theorem WO.conv {x : Operand} {src dst : TypeId} {k0 k k' : IntKind} {n n' : Int} [hS : NmT P src k0] [hD : NmT P dst k'] (hg : gg all (look env) g = some true) (hx : ov (look env) x = .sc (.int k n)) (hw : k'.wrap n = n') (hn : nrE d env = true) (k : WO P X all l (look ((d, .sc (.int k' n')) :: env)) R) : WO P X all (⟨some d, .convert src dst x, ty, pos, af, g⟩ :: l) (look env) R := by
  subst hw
  exact WO.q hg (.qo (qo_conv hS.h hD.h hx)) hn rfl k
/-- A shift to the right. -/
theorem qo_shr {σ : Nat → AV} {x y : Operand} {tx : TypeId} {k k' : IntKind} {a b c : Int} (hx : ov σ x = .sc (.int k a)) (hy : ov σ y = .sc (.int k' b)) (h0 : 0 ≤ b) (hc : a.fdiv (2 ^ (min b.toNat k.bits)) = c) : QO P σ (.binOp .shr tx x y ty) (.sc (.int k c)) := by
  refine .pure _ (.int k c) fun ρ o w ho hρ => ?_
  have e1 := hρ x _ (by rw [hx]; rfl)
  have e2 := hρ y _ (by rw [hy]; rfl)
  have hg : (eqGuard .shr tx x y (.int k a) (.int k' b)).run P w = .ok () w := by
    unfold eqGuard; rfl
  have hs : (binOp .shr tx (.int k a) (.int k' b)).run P w = .ok (.int k c) w := by
    simp [binOp, Op.shift, show ¬ b < 0 by omega, hc]
  simp only [execOp, ho, e1, e2, Sem.run_bind, hg, Result.andThen_ok, hs, Sem.run_pure]
theorem WO.shr {x y : Operand} {tx ty2 : TypeId} {k k' : IntKind} {a b c : Int} (hg : gg all (look env) g = some true) (hx : ov (look env) x = .sc (.int k a)) (hy : ov (look env) y = .sc (.int k' b)) (h0 : 0 ≤ b) (hc : a.fdiv (2 ^ (min b.toNat k.bits)) = c) (hn : nrE d env = true) (k : WO P X all l (look ((d, .sc (.int k c)) :: env)) R) : WO P X all (⟨some d, .binOp .shr tx x y ty2, ty, pos, af, g⟩ :: l) (look env) R :=
  WO.q hg (.qo (qo_shr hx hy h0 hc)) hn rfl k
/-- A shift to the left. -/
theorem qo_shl {σ : Nat → AV} {x y : Operand} {tx : TypeId} {k k' : IntKind} {a b c : Int} (hx : ov σ x = .sc (.int k a)) (hy : ov σ y = .sc (.int k' b)) (h0 : 0 ≤ b) (hc : k.wrap (a * 2 ^ (min b.toNat k.bits)) = c) : QO P σ (.binOp .shl tx x y ty) (.sc (.int k c)) := by
  refine .pure _ (.int k c) fun ρ o w ho hρ => ?_
  have e1 := hρ x _ (by rw [hx]; rfl)
  have e2 := hρ y _ (by rw [hy]; rfl)
  have hg : (eqGuard .shl tx x y (.int k a) (.int k' b)).run P w = .ok () w := by
    unfold eqGuard; rfl
  have hs : (binOp .shl tx (.int k a) (.int k' b)).run P w = .ok (.int k c) w := by
    simp [binOp, Op.shift, show ¬ b < 0 by omega, hc]
  simp only [execOp, ho, e1, e2, Sem.run_bind, hg, Result.andThen_ok, hs, Sem.run_pure]
theorem WO.shl {x y : Operand} {tx ty2 : TypeId} {k k' : IntKind} {a b c : Int} (hg : gg all (look env) g = some true) (hx : ov (look env) x = .sc (.int k a)) (hy : ov (look env) y = .sc (.int k' b)) (h0 : 0 ≤ b) (hc : k.wrap (a * 2 ^ (min b.toNat k.bits)) = c) (hn : nrE d env = true) (k : WO P X all l (look ((d, .sc (.int k c)) :: env)) R) : WO P X all (⟨some d, .binOp .shl tx x y ty2, ty, pos, af, g⟩ :: l) (look env) R :=
  WO.q hg (.qo (qo_shl hx hy h0 hc)) hn rfl k
/-- A struct is built. -/
theorem WO.bld {tx : TypeId} {parts : Array (Nat × Operand)} {cs : List AV} (hg : gg all (look env) g = some true) (hb : builtA P tx (parts.toList.map fun x => (x.1, ov (look env) x.2)) = some cs) (ha : nrL d cs = true) (hn : nrE d env = true) (k : WO P X all l (look ((d, .ag cs) :: env)) R) : WO P X all (⟨some d, .build tx parts, ty, pos, af, g⟩ :: l) (look env) R :=
  WO.q hg (.qo (.build tx parts cs hb)) hn (by simpa only [nrA] using ha) k
/-- A pointer that leads somewhere. -/
theorem WO.nilO {x : Operand} {r i : Nat} {p : List Nat} {cs : List AV} (hg : gg all (look env) g = some true) (hc : ov (look env) x = .ad r p i) (hr : nodeCells (look env) r p = some cs) (hrd : Nat.beq r d = false) (hn : nrE d env = true) (k : WO P X all l (look ((d, .ad r p i) :: env)) R) : WO P X all (⟨some d, .nilCheck x, ty, pos, af, g⟩ :: l) (look env) R :=
  WO.q hg (.qo (.nilCheck x (.ad r p i) (by rw [hc]; simp only [adv, hr, Option.map_some, Nat.add_zero]))) hn (by simp [nrA, hrd]) k
theorem WO.nilI {x : Operand} {cs : List AV} (hg : gg all (look env) g = some true) (hc : ov (look env) x = .ip cs) (hn : nrE d env = true) (k : WO P X all l (look ((d, .ip cs) :: env)) R) : WO P X all (⟨some d, .nilCheck x, ty, pos, af, g⟩ :: l) (look env) R :=
  WO.q hg (.qo (.nilCheck x (.ip cs) (by rw [hc]; rfl))) hn rfl k
theorem QE.nilO {x : Operand} {r i : Nat} {p : List Nat} {cs : List AV} (hc : ov (look env) x = .ad r p i) (hr : nodeCells (look env) r p = some cs) : Ev P X (.qe ⟨some d, .nilCheck x, ty, pos, af, g⟩ (look env) (.ad r p i)) :=
  .qo (.nilCheck x (.ad r p i) (by rw [hc]; simp only [adv, hr, Option.map_some, Nat.add_zero]))
theorem QE.flO {x : Operand} {s fd off r i : Nat} {p : List Nat} {cs : List AV} [hT : FlT P s fd off] (hc : ov (look env) x = .ad r p i) (hr : nodeCells (look env) r p = some cs) : Ev P X (.qe ⟨some d, .fieldAddr s x fd, ty, pos, af, g⟩ (look env) (.ad r p (i + off))) := by
  obtain ⟨fs, f', n, h1, h2, h3, h4, rfl⟩ := flT_some hT.h
  exact .qo (.fieldAddr s x fd n fs f' _ h1 h2 h3 h4 (by rw [hc]; simp only [adv, hr, Option.map_some]))
theorem QE.binG {o : BinOp} {x y : Operand} {tx ty2 : TypeId} {k : IntKind} {a b : Int} {v : Value} (hx : ov (look env) x = .sc (.int k a)) (hy : ov (look env) y = .sc (.int k b)) (h : Eng.binG o k a b = some v) (hc : cAV v = .sc v) : Ev P X (.qe ⟨some d, .binOp o tx x y ty2, ty, pos, af, g⟩ (look env) (.sc v)) :=
  .qo (by have := qo_binG (P := P) (ty := ty2) (tx := tx) hx hy h; rwa [hc] at this)
theorem QE.conv {x : Operand} {src dst : TypeId} {k0 k k' : IntKind} {n n' : Int} [hS : NmT P src k0] [hD : NmT P dst k'] (hx : ov (look env) x = .sc (.int k n)) (hw : k'.wrap n = n') : Ev P X (.qe ⟨some d, .convert src dst x, ty, pos, af, g⟩ (look env) (.sc (.int k' n'))) := by
  subst hw
  exact .qo (qo_conv hS.h hD.h hx)
/-- A plain value is stored into a variable: the operation alone. -/
theorem OE.st {x y : Operand} {tx r i : Nat} {cs cs' : List AV} {v : Value} [hT : OnT P tx] (hx : ov (look env) x = .ad r [] i) (hy : ov (look env) y = .sc v) (hr : look env r = .op cs) (hi : Nat.blt i cs.length = true) (hne : nbE r 0 env = true) (hc : cs.set i (.sc v) = cs') :
    Ev P X (.op ⟨none, .store tx x y, ty, pos, af, g⟩ (look env) (look ((r, .op cs') :: env))) := by
  subst hc
  have hs : modS (look env) r [] (isC r [] i) (withKids (.op cs) (cs.set i (.sc v))) = look ((r, .op (cs.set i (.sc v))) :: env) := modS_look (p := []) hne rfl
  have := Ev.store (P := P) (X := X) (o := ⟨none, .store tx x y, ty, pos, af, g⟩) (σ := look env) (σ1 := look env) (σ2 := look ((r, .op (cs.set i (.sc v))) :: env)) (vs := [.sc v]) (tr := .sc v) rfl hx (by simp only [nodeCells, getN, hr]; rfl) (by rw [hy]; exact .plain rfl (.nil _)) rfl hT.hs (by rw [← hs]; exact .cons (by simp only [getN]; rw [hr]) (.inr rfl) (Nat.le_of_ble_eq_true hi) (.nil _ _ _ _))
  exact this
/-- A quiet operation alone, in place of what was there. -/
theorem OE.q {op : Op} {av : AV} (h : Ev P X (.qe ⟨some d, op, ty, pos, af, g⟩ (look env) av)) (hn : nrE d env = true) (ha : nrA d av = true) : Ev P X (.op ⟨some d, op, ty, pos, af, g⟩ (look env) (look ((d, av) :: env))) := by
  have := Ev.quiet (P := P) (X := X) h
  simpa only [putD, put_look hn ha] using this
/-- A slice of one struct of plain parts. -/
theorem WO.b1A {tx e sz by_ : Nat} {z : Value} {zc cs : List AV} [hT : SlT P tx e sz] [hZ : ZrT P e by_ z zc] (hg : gg all (look env) g = some true) (ht : Nat.blt t HB = true) (hx : look env t = .ag cs) (hp : cs.all isPl = true) (hl : Nat.beq cs.length sz = true) (hz : Nat.beq zc.length sz = true) (h1 : Nat.ble sz 16777216 = true) (hn : nrE d env = true)
    (k : WO P X all l (look ((d, .ow e sz 1 cs) :: env)) R) : WO P X all (⟨some d, .buildSlice tx 1 #[(0, .tmp t)], ty, pos, af, g⟩ :: l) (look env) R := by
  have hsz := zr_size hZ hz
  have hl' := Nat.eq_of_beq_eq_true hl
  have hf : fillA (fun i => some (i * sz, sz)) ((madeCells z.cells (1 * sz)).toList.map c1) [(0, .ag cs)] = some cs := by
    have hlen : ((madeCells z.cells (1 * sz)).toList.map c1).length = sz := by simp [madeCells]
    generalize (madeCells z.cells (1 * sz)).toList.map c1 = ys at hlen
    simp [fillA, acells, splice, hl', hlen]
  refine WO.op (σ1 := put (look env) d (.ow e sz 1 cs)) (gg_goes hg) (.buildS (us := [.ag cs]) rfl rfl hT.ht hT.hs hZ.hz hsz hT.h0 (by have := Nat.le_of_ble_eq_true h1; omega) hZ.h1 (by simp only [List.map_cons, List.map_nil, ov, ht, cond_true, hx, refT, refL_pl hp]; exact .ag (TakeL.pls hp) (.nil _)) hf) ?_
  rw [put_look hn rfl]; exact k
/-- A pointer to a variable is handed back. -/
theorem retD {r n : Nat} {cs : List AV} {res : AV} {fin : List AV} {ex : Ex} (hx : ov (look env) (.tmp t) = .ad r [] 0) (hr : look env r = .op cs) (hres : .op cs = res) (hf : fins n (look ((r, .dead) :: env)) = fin) (hn : fin.all noRf = true) (he : ex = .normal ∨ ex = .ret := by simp) :
    (ex = .normal ∨ ex = .ret) ∧ ∃ as rs σ2, ResL P (look env) [.tmp t] as ∧ TakeL (look env) as rs σ2 ∧ resOf rs = res ∧ fins n σ2 = fin ∧ fin.all noRf = true := by
  subst hres
  refine ⟨he, _, [.op cs], look ((r, .dead) :: env), .tmp t .nil, ?_, rfl, hf, hn⟩
  rw [hx]
  have := TakeL.ad (σ := look env) (σ' := setS (look env) r [] .dead) (r := r) (p := []) (cs := cs) (as := []) (ts := []) (by simp [getN, hr]) (.nil _)
  have e2 : setS (look env) r [] .dead = look ((r, .dead) :: env) := by rw [← look_upd]; rfl
  rwa [e2] at this
/-- A function whose result is told by a property. -/
theorem Ev.fnE {f : FuncId} {F : Func} {c : Code} {args : List AV} {env : Env} (G : AV → List AV → Prop) (hF : P.funcs[f]? = some F) (hc : F.body = some c) (hnm : (F.name == "runtime.NumGoroutine") = false) (hN : Nat.ble F.ntmps HB = true) (hA : Nat.ble args.length F.ntmps = true) (hK : codeOk F.ntmps c = true) (he : Keep (enter args) env)
    (h : WC P X c (look env) fun ex σ1 => (ex = .normal ∨ ex = .ret) ∧ ∃ as rs σ2, ResL P σ1 F.results.toList as ∧ TakeL σ1 as rs σ2 ∧ (fins args.length σ2).all noRf = true ∧ G (resOf rs) (fins args.length σ2)) : ∃ res fin, Ev P X (.fn f args res fin) ∧ G res fin := by
  obtain ⟨ex, σ1, h1, hx, as, rs, σ2, h2, h3, h4, h5⟩ := h
  exact ⟨_, _, .fn hF hc hnm (Nat.le_of_ble_eq_true hN) (Nat.le_of_ble_eq_true hA) hK (.drop he.drop h1) hx h2 h3 h4, h5⟩
theorem retVE {n : Nat} {v : Value} {fin : List AV} {ex : Ex} {G : AV → List AV → Prop} (hx : ov (look env) (.tmp t) = .sc v) (hf : fins n (look env) = fin) (hn : fin.all noRf = true) (hG : G (.sc v) fin) (he : ex = .normal ∨ ex = .ret := by simp) :
    (ex = .normal ∨ ex = .ret) ∧ ∃ as rs σ2, ResL P (look env) [.tmp t] as ∧ TakeL (look env) as rs σ2 ∧ (fins n σ2).all noRf = true ∧ G (resOf rs) (fins n σ2) := by
  subst hf
  exact ⟨he, _, [.sc v], look env, .tmp t .nil, by rw [hx]; exact .plain rfl (.nil _), hn, hG⟩
theorem retDE {r n : Nat} {cs : List AV} {fin : List AV} {ex : Ex} {G : AV → List AV → Prop} (hx : ov (look env) (.tmp t) = .ad r [] 0) (hr : look env r = .op cs) (hf : fins n (look ((r, .dead) :: env)) = fin) (hn : fin.all noRf = true) (hG : G (.op cs) fin) (he : ex = .normal ∨ ex = .ret := by simp) :
    (ex = .normal ∨ ex = .ret) ∧ ∃ as rs σ2, ResL P (look env) [.tmp t] as ∧ TakeL (look env) as rs σ2 ∧ (fins n σ2).all noRf = true ∧ G (resOf rs) (fins n σ2) := by
  subst hf
  refine ⟨he, _, [.op cs], look ((r, .dead) :: env), .tmp t .nil, ?_, hn, hG⟩
  rw [hx]
  have := TakeL.ad (σ := look env) (σ' := setS (look env) r [] .dead) (r := r) (p := []) (cs := cs) (as := []) (ts := []) (by simp [getN, hr]) (.nil _)
  have e2 : setS (look env) r [] .dead = look ((r, .dead) :: env) := by rw [← look_upd]; rfl
  rwa [e2] at this
/-! Appends behind what another register owns. -/
theorem tkV {r n e sz : Nat} {cs as ts : List AV} {σ' : Nat → AV} (hr : look env r = .ow e sz n cs) (hl : cs.length = n * sz) (k : TakeL (look ((r, .dead) :: env)) as ts σ') : TakeL (look env) (.vw r [] 0 n :: as) (.ow e sz n cs :: ts) σ' := by
  have e1 : setS (look env) r [] .dead = look ((r, .dead) :: env) := by rw [← look_upd]; rfl
  have h1 := TakeL.vw (σ := look env) (σ' := σ') (r := r) (n := n) (p := []) (e := e) (sz := sz) (m := n) (cs := cs) (by simp [getN, hr]) (Nat.le_refl _) (by rw [e1]; exact k)
  rwa [List.take_of_length_le (by omega)] at h1
theorem WO.apVI {s x : Operand} {tx e sz by_ n m r : Nat} {z : Value} {cs L zc : List AV} [hT : SlT P tx e sz] [hZ : ZrT P e by_ z zc] (hg : gg all (look env) g = some true) (hs : ov (look env) s = .vw r [] 0 n) (hr : look env r = .ow e sz n cs) (hl : cs.length = n * sz) (hx : ov (look env) x = .im m L) (hL : L.length = m * sz) (hz : Nat.beq zc.length sz = true) (h63 : n + m ≤ maxLen) (hby : (n + m) * by_ ≤ 140737488355328) (hn : nrE d env = true)
    (k : WO P X all l (look ((d, .ow e sz (n + m) (cs ++ L)) :: (r, .dead) :: env)) R) : WO P X all (⟨some d, .call { callee := .builtin .append, args := #[s, x], argTypes := #[tx, tx] }, ty, pos, af, g⟩ :: l) (look env) R := by
  refine WO.op (σ1 := put (look ((r, .dead) :: env)) d (.ow e sz (n + m) (cs ++ L))) (gg_goes hg) (.appendC (z := z) rfl rfl hT.ht hT.hs hZ.hb hZ.hz (zr_size hZ hz) hT.h0 (by rw [hs]; exact tkV hr hl (.nil _)) (.ow n cs) (by rw [hx]; exact .im m L) hL h63 hby) ?_
  rw [put_look (by simp only [nrE, nrA, hn, Bool.and_self]) rfl]
  exact k
theorem WO.apVM {s x : Operand} {tx e sz by_ n m r r2 : Nat} {z : Value} {cs L zc : List AV} [hT : SlT P tx e sz] [hZ : ZrT P e by_ z zc] (hg : gg all (look env) g = some true) (hs : ov (look env) s = .vw r [] 0 n) (hr : look env r = .ow e sz n cs) (hl : cs.length = n * sz) (hx : ov (look env) x = .vw r2 [] 0 m) (hr2 : look env r2 = .ow e sz m L) (hL : L.length = m * sz) (hrr : Nat.beq r r2 = false) (hz : Nat.beq zc.length sz = true) (h63 : n + m ≤ maxLen) (hby : (n + m) * by_ ≤ 140737488355328) (hn : nrE d env = true)
    (k : WO P X all l (look ((d, .ow e sz (n + m) (cs ++ L)) :: (r2, .dead) :: (r, .dead) :: env)) R) : WO P X all (⟨some d, .call { callee := .builtin .append, args := #[s, x], argTypes := #[tx, tx] }, ty, pos, af, g⟩ :: l) (look env) R := by
  have hr3 : look ((r, .dead) :: env) r2 = .ow e sz m L := by simp only [look, hrr, cond_false]; exact hr2
  refine WO.op (σ1 := put (look ((r2, .dead) :: (r, .dead) :: env)) d (.ow e sz (n + m) (cs ++ L))) (gg_goes hg) (.appendM (σ2 := look env) (z := z) rfl rfl hT.ht hT.hs hZ.hb hZ.hz (zr_size hZ hz) hT.h0 (by rw [hs, hx]; exact tkV hr hl (tkV hr3 hL (.nil _))) (.ow n cs) h63 hby) ?_
  rw [put_look (by simp only [nrE, nrA, hn, Bool.and_self]) rfl]
  exact k
/-- A call that turns what its first argument, a pointer, leads to; the others are plain. -/
theorem WO.callD {fn : FuncId} {x0 : Operand} {xs : List Operand} {ts : Array TypeId} {r : Nat} {cs cs' : List AV} {az fin : List AV} {res : AV} (hg : gg all (look env) g = some true) (hx : ov (look env) x0 = .ad r [] 0) (hr : look env r = .op cs) (ha : xs.map (ov (look env)) = az) (hp : az.all isPlA = true)
    (hf : Ev P X (.fn fn (.op cs :: az) res (.op cs' :: fin))) (hfl : fin.length = az.length) (hne : nbE r 0 env = true) (hd : nrE d env = true) (hdr : nrA d res = true)
    (k : WO P X all l (look ((d, res) :: (r, .op cs') :: env)) R) : WO P X all (⟨some d, .call { callee := .value (.func fn), args := (x0 :: xs).toArray, argTypes := ts }, ty, pos, af, g⟩ :: l) (look env) R := by
  have e1 : setS (look env) r [] .dead = look ((r, .dead) :: env) := by rw [← look_upd]; rfl
  have hT : TakeF (look env) [.ad r [] 0] [.op cs] (look ((r, .dead) :: env)) := by
    have := TakeF.ad (σ := look env) (σ' := look ((r, .dead) :: env)) (r := r) (p := []) (cs := cs) (as := []) (ts := []) (by simp [getN, hr]) (by rw [e1]; exact .nil _)
    exact this
  have hro : ∀ (as : List AV) {σ σ' : Nat → AV}, as.all isPlA = true → PassL σ σ' (List.replicate as.length false) as as σ' := by
    intro as
    induction as with
    | nil => intro σ σ' _; exact .nil _
    | cons a as ih =>
      intro σ σ' h
      simp only [List.all_cons, Bool.and_eq_true] at h
      exact .ro (FrzL.plains (by simp only [List.all_cons, h.1, List.all_nil, Bool.and_self])) (ih h.2)
  have hbk : ∀ (as bs : List AV) {σ' : Nat → AV}, bs.length = as.length → BackL σ' (List.replicate as.length false) as bs σ' := by
    intro as
    induction as with
    | nil => intro bs σ' h; cases bs with
      | nil => exact .nil _
      | cons b bs => simp at h
    | cons a as ih =>
      intro bs σ' h
      cases bs with
      | nil => simp at h
      | cons b bs => exact .skip (ih bs (by simpa using h))
  have hrp : ∀ (as : List AV), as.all isPlA = true → roPl (List.replicate as.length false) as = true := by
    intro as
    induction as with
    | nil => intro _; rfl
    | cons a as ih =>
      intro h
      simp only [List.all_cons, Bool.and_eq_true] at h
      simp only [List.length_cons, List.replicate_succ, roPl, h.1, ih h.2, Bool.and_self]
  have hor : ∀ (k : Nat) (as : List AV), owRefs (List.replicate k false) as = [] := by
    intro k
    induction k with
    | zero => intro as; cases as <;> rfl
    | succ k ih => intro as; cases as with
      | nil => rfl
      | cons t ts => simp only [List.replicate_succ, owRefs]; exact ih ts
  have hm : modS (look ((r, .dead) :: env)) r [] (isU r []) (.op cs') = look ((r, .op cs') :: (r, .dead) :: env) :=
    modS_lookU (r := r) (p := []) (e := (r, .dead) :: env) (x := .op cs') (by simp only [List.length_nil, nbE, nbA, hne, Bool.and_self]) rfl
  have hov : (x0 :: xs).toArray.toList.map (ov (look env)) = .ad r [] 0 :: az := by simp only [List.map_cons, hx, ha]
  refine WO.op (σ1 := putD (look ((r, .op cs') :: (r, .dead) :: env)) (some d) res) (gg_goes hg) (.call (ms := true :: List.replicate az.length false) (σ1 := look ((r, .dead) :: env)) rfl ?_ hf (.inr ?_) ?_ ?_) ?_
  · rw [hov]; exact .own hT (hro az hp)
  · rw [hov]; simp only [roPl]; exact hrp az hp
  · rw [hov]; simp [owRefs, hor, refs, stab, isU]
  · rw [hov]; refine .ad (by simp [look, getN]) ?_; rw [hm]; exact hbk az fin hfl
  · simp only [putD]
    rw [put_look (by simp only [nrE, nrA, hd, Bool.and_self]) hdr, look_dup2]
    exact k
/-- What a register owns, at a place, is only read from now on. -/
theorem WO.hard {r : Nat} {p : List Nat} {x y : AV} (hn : getN p (look env r) = some x) (hx : isOw x = true) (hy : setN p (look env r) (Eng.hard x) = y) (k : WO P X all l (look ((r, y) :: env)) R) : WO P X all l (look env) R := by
  subst hy
  obtain ⟨σ2, h1, h2⟩ := k
  refine ⟨σ2, .opsHard (r := r) (p := p) hn hx ?_, h2⟩
  rw [setS_look]; exact h1
theorem WO.castAt {r : Nat} {p : List Nat} {y : AV} (e sz : Nat) (h0 : 0 < sz) (hn : getN p (look env r) = some .nl) (hy : setN p (look env r) (.ow e sz 0 []) = y) (k : WO P X all l (look ((r, y) :: env)) R) : WO P X all l (look env) R := by
  subst hy
  obtain ⟨σ2, h1, h2⟩ := k
  refine ⟨σ2, .opsCast (r := r) (p := p) hn (.ow e sz h0) ?_, h2⟩
  rw [setS_look]; exact h1
end
end Go.Eng
