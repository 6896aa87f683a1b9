/- The engine: more rules; the scripts that take the plain steps. -/
import Derived.Test.YtbhdobjjhkkpkaaEngB3
import Derived.Laws.Small
/- The engine, part W: more rules: slices of slices that are built, appended, stored. -/
namespace Go.Eng
open Go Go.RowKit
set_option linter.unusedVariables false
set_option linter.unusedSimpArgs false
def eV (a : AV) : List AV := [a]
instance : Wid eV 1 := ⟨fun _ => rfl⟩
theorem encL_eV : ∀ (l : List AV), encL eV l = l
  | [] => rfl
  | a :: l => by rw [encL_cons, encL_eV]; rfl
/-- What refers to a register is let go. -/
def clnE (r : Nat) : Env → Env
  | [] => []
  | (k, a) :: e => (k, bif nrA r a then a else .dead) :: clnE r e
theorem clnE_drop {r : Nat} : ∀ (e : Env), Drop (look e) (look (clnE r e))
  | [], t => .inl rfl
  | (k, a) :: e, t => by
    simp only [look, clnE]
    cases Nat.beq k t
    · simp only [cond_false]; exact clnE_drop e t
    · simp only [cond_true]
      cases nrA r a
      · exact .inl rfl
      · exact .inr rfl
section
variable {P : Program} {X : FuncId → List AV → AV → List AV → Prop} {all : Array Oper} {R : (Nat → AV) → Prop} {Q : Ex → (Nat → AV) → Prop}
variable {g : Option (Nat × Bool)} {env : Env} {d t : Nat} {l : List Oper} {ty : TypeId} {pos : String} {af : Array Edge} {α : Type} {f : α → List AV}
theorem WO.cln (r : Nat) (k : WO P X all l (look (clnE r env)) R) : WO P X all l (look env) R := .drop (clnE_drop env) k
theorem WC.cln {c : Code} (r : Nat) (k : WC P X c (look (clnE r env)) Q) : WC P X c (look env) Q := .drop (clnE_drop env) k
/-- A slice of one part, which is owned. -/
theorem WO.b1 {tx e by_ n e2 s2 : Nat} {z : Value} {zc cs2 : List AV} [hT : SlT P tx e 1] [hZ : ZrT P e by_ z zc] (hg : gg all (look env) g = some true) (ht : Nat.blt t HB = true) (hx : look env t = .ow e2 s2 n cs2) (hl : cs2.length = n * s2) (hz : Nat.beq zc.length 1 = true) (hn : nrE d env = true)
    (k : WO P X all l (look ((d, .ow e 1 1 [.ow e2 s2 n cs2]) :: (t, .dead) :: env)) R) : WO P X all (⟨some d, .buildSlice tx 1 #[(0, .tmp t)], ty, pos, af, g⟩ :: l) (look env) R := by
  have hsz := zr_size hZ hz
  have hf : fillA (fun i => some (i * 1, 1)) ((madeCells z.cells (1 * 1)).toList.map c1) [(0, .ow e2 s2 n cs2)] = some [.ow e2 s2 n cs2] := by
    have hlen : ((madeCells z.cells (1 * 1)).toList.map c1).length = 1 := by simp [madeCells]
    obtain ⟨y, hy⟩ := List.length_eq_one_iff.1 hlen
    rw [hy]
    simp [fillA, acells, splice]
  refine WO.op (σ1 := put (look ((t, .dead) :: env)) d (.ow e 1 1 [.ow e2 s2 n cs2])) (gg_goes hg) (.buildS (us := [.ow e2 s2 n cs2]) rfl rfl hT.ht hT.hs hZ.hz hsz hT.h0 (by omega) hZ.h1 (hx_tk ht hx hl) hf) ?_
  rw [put_look (by simp only [nrE, nrA, hn, Bool.and_self]) rfl]
  exact k
/-- What a register owns is put behind, and leaves it. -/
theorem WO.apM {x : Operand} {tx e sz by_ n m r : Nat} {z : Value} {cs L zc : List AV} [hT : SlT P tx e sz] [hZ : ZrT P e by_ z zc] (hg : gg all (look env) g = some true) (ht : Nat.blt t HB = true) (hs : look env t = .ow e sz n cs) (hl : cs.length = n * sz) (hx : ov (look env) x = .vw r [] 0 m) (hr : look env r = .ow e sz m L) (hL : L.length = m * sz) (htr : Nat.beq t r = false) (hz : Nat.beq zc.length sz = true) (h63 : n + m ≤ maxLen) (hby : (n + m) * by_ ≤ 140737488355328) (hn : nrE d env = true)
    (k : WO P X all l (look ((d, .ow e sz (n + m) (cs ++ L)) :: (r, .dead) :: (t, .dead) :: env)) R) : WO P X all (⟨some d, .call { callee := .builtin .append, args := #[.tmp t, x], argTypes := #[tx, tx] }, ty, pos, af, g⟩ :: l) (look env) R := by
  have hT2 : TakeL (look env) [ov (look env) (.tmp t), ov (look env) x] [.ow e sz n cs, .ow e sz m L] (look ((r, .dead) :: (t, .dead) :: env)) := by
    rw [hx]
    simp only [ov, ht, cond_true, hs, refT]
    have e1 : setS (look env) t [] .dead = look ((t, .dead) :: env) := by rw [← look_upd]; rfl
    have e2 : setS (look ((t, .dead) :: env)) r [] .dead = look ((r, .dead) :: (t, .dead) :: env) := by rw [← look_upd (e := (t, .dead) :: env)]; rfl
    have hr2 : look ((t, .dead) :: env) r = .ow e sz m L := by simp only [look, htr, cond_false]; exact hr
    have h2 := TakeL.vw (σ := look ((t, .dead) :: env)) (σ' := setS (look ((t, .dead) :: env)) r [] .dead) (r := r) (n := m) (p := []) (e := e) (sz := sz) (m := m) (cs := L) (as := []) (ts := []) (by simp [getN, hr2]) (Nat.le_refl _) (.nil _)
    rw [List.take_of_length_le (by omega), e2] at h2
    have h1 := TakeL.vw (σ := look env) (σ' := look ((r, .dead) :: (t, .dead) :: env)) (r := t) (n := n) (p := []) (e := e) (sz := sz) (m := n) (cs := cs) (by simp [getN, hs]) (Nat.le_refl _) (by rw [e1]; exact h2)
    rwa [List.take_of_length_le (by omega)] at h1
  refine WO.op (σ1 := put (look ((r, .dead) :: (t, .dead) :: env)) d (.ow e sz (n + m) (cs ++ L))) (gg_goes hg) (.appendM (σ2 := look env) (z := z) rfl rfl hT.ht hT.hs hZ.hb hZ.hz (zr_size hZ hz) hT.h0 hT2 (.ow n cs) h63 hby) ?_
  rw [put_look (by simp only [nrE, nrA, hn, Bool.and_self]) rfl]
  exact k
/-- A slice that is owned is stored into a cell of a slice. -/
theorem WO.stO {x : Operand} {tx r a e n m e2 s2 : Nat} {cs cs2 : List AV} [hT : OnT P tx] (hg : gg all (look env) g = some true) (hx : ov (look env) x = .ad r [] a) (ht : Nat.blt t HB = true) (hy : look env t = .ow e2 s2 m cs2) (hl : cs2.length = m * s2) (hr : look env r = .ow e 1 n cs) (hi : a < cs.length) (htr : Nat.beq t r = false) (hne : nbE r 0 env = true)
    (k : WO P X all l (look ((r, .ow e 1 n (cs.set a (.ow e2 s2 m cs2))) :: (t, .dead) :: env)) R) : WO P X all (⟨none, .store tx x (.tmp t), ty, pos, af, g⟩ :: l) (look env) R := by
  have hr2 : look ((t, .dead) :: env) r = .ow e 1 n cs := by simp only [look, htr, cond_false]; exact hr
  have hne2 : nbE r 0 ((t, .dead) :: env) = true := by simp only [nbE, nbA, hne, Bool.and_self]
  obtain ⟨e', h1, h2⟩ := StoreL.root (r := r) [.ow e2 s2 m cs2] (e := (t, .dead) :: env) (i := a) hne2 hr2 (.inl ⟨_, _, _, rfl⟩) (by simp; omega)
  refine WO.op (σ1 := putD (look e') none .dead) (gg_goes hg) (.store (σ1 := look ((t, .dead) :: env)) (vs := [.ow e2 s2 m cs2]) (tr := .ow e2 s2 m cs2) rfl hx ?_ (hx_tk ht hy hl) rfl hT.hs h1) ?_
  · simp only [nodeCells, getN, hr2]; rfl
  · show WO P X all l (look e') R
    rw [h2]; exact k
/-- A nil slice stands in for an empty one that is owned. -/
theorem WO.castO {r e sz : Nat} (h0 : 0 < sz) (hx : look env r = .nl) (k : WO P X all l (look ((r, .ow e sz 0 []) :: env)) R) : WO P X all l (look env) R := by
  obtain ⟨σ2, h1, h2⟩ := k
  refine ⟨σ2, .opsCast (r := r) (p := []) (x := .ow e sz 0 []) (by simp [getN, hx]) (.ow e sz h0) ?_, h2⟩
  have : setS (look env) r [] (.ow e sz 0 []) = look ((r, .ow e sz 0 []) :: env) := by rw [← look_upd]; rfl
  rw [this]; exact h1
theorem WC.castO {c : Code} {r e sz : Nat} (h0 : 0 < sz) (hx : look env r = .nl) (k : WC P X c (look ((r, .ow e sz 0 []) :: env)) Q) : WC P X c (look env) Q := by
  obtain ⟨ex, σ2, h1, h2⟩ := k
  refine ⟨ex, σ2, .cast (r := r) (p := []) (x := .ow e sz 0 []) (by simp [getN, hx]) (.ow e sz h0) ?_, h2⟩
  have : setS (look env) r [] (.ow e sz 0 []) = look ((r, .ow e sz 0 []) :: env) := by rw [← look_upd]; rfl
  rw [this]; exact h1
theorem frz1 {σ : Nat → AV} {r n e sz : Nat} {xs : List α} [hW : Wid f sz] [hP : Pl f] (h : σ r = .ow e sz n (encL f xs)) (hn : xs.length = n) : Frz σ (.vw r [] 0 n) (.im n (encL f xs)) := by
  subst hn
  have := Frz.vw (σ := σ) r 0 xs.length e sz xs.length [] (encL f xs) (by simp [getN, h]) (by rw [encL_length (sz := sz)]; omega)
  rwa [List.drop_zero, List.take_of_length_le (by rw [encL_length (sz := sz)]; exact Nat.le_refl _), hardL_pl (encL_pl xs)] at this
theorem hard_rows {e s : Nat} [hP : Pl f] : ∀ (xs : List (List α)), hardL (encL (eO e s f) xs) = encL (eR f) xs
  | [] => rfl
  | x :: xs => by
    rw [encL_cons, encL_cons]
    simp only [eO, eR, List.cons_append, List.nil_append, hardL, hard, hard_rows xs, hardL_pl (encL_pl x)]
theorem frz2 {σ : Nat → AV} {r n e e2 s2 : Nat} {xs : List (List α)} [hP : Pl f] (h : σ r = .ow e 1 n (encL (eO e2 s2 f) xs)) (hn : xs.length = n) : Frz σ (.vw r [] 0 n) (.im n (encL (eR f) xs)) := by
  subst hn
  have := Frz.vw (σ := σ) r 0 xs.length e 1 xs.length [] (encL (eO e2 s2 f) xs) (by simp [getN, h]) (by rw [encL_length (sz := 1)]; omega)
  rwa [List.drop_zero, List.take_of_length_le (by rw [encL_length (sz := 1)]; exact Nat.le_refl _), hard_rows] at this
end
end Go.Eng
/- The engine, part X: numbers of all kinds: arithmetic, bits, shifts, conversions. -/
namespace Go.Eng
open Go Go.RowKit
set_option linter.unusedVariables false
set_option linter.unusedSimpArgs false
/-- What two numbers of one kind give. -/
def binG (op : BinOp) (k : IntKind) (a b : Int) : Option Value :=
  match op with
  | .add => some (.int k (k.wrap (a + b)))
  | .sub => some (.int k (k.wrap (a - b)))
  | .mul => some (.int k (k.wrap (a * b)))
  | .quo => if b = 0 then none else some (.int k (k.wrap (a.tdiv b)))
  | .rem => if b = 0 then none else some (.int k (a.tmod b))
  | .and => some (.int k (k.wrap (BitVec.ofInt k.bits a &&& BitVec.ofInt k.bits b).toNat))
  | .or => some (.int k (k.wrap (BitVec.ofInt k.bits a ||| BitVec.ofInt k.bits b).toNat))
  | .xor => some (.int k (k.wrap (BitVec.ofInt k.bits a ^^^ BitVec.ofInt k.bits b).toNat))
  | .eql => some (.bool (decide (a = b)))
  | .neq => some (.bool (decide (a ≠ b)))
  | .lss => some (.bool (decide (a < b)))
  | .leq => some (.bool (decide (a ≤ b)))
  | .gtr => some (.bool (decide (a > b)))
  | .geq => some (.bool (decide (a ≥ b)))
  | _ => none
theorem binG_run {P : Program} {op : BinOp} {k : IntKind} {a b : Int} {c : Value} (h : binG op k a b = some c) (w : World) (t : TypeId) : (binOp op t (.int k a) (.int k b)).run P w = .ok c w := by
  cases op <;> simp only [binG, reduceCtorEq, Option.some.injEq] at h
  case quo =>
    by_cases hb : b = 0
    · simp [hb] at h
    · simp only [hb, if_false, Option.some.injEq] at h; subst h; simp [binOp, Op.intDiv, hb]
  case rem =>
    by_cases hb : b = 0
    · simp [hb] at h
    · simp only [hb, if_false, Option.some.injEq] at h; subst h; simp [binOp, Op.intDiv, hb]
  all_goals subst h
  all_goals simp [binOp, Op.intArith, Op.intBits, Op.intCmp, bne, decide_not]
  all_goals rfl
section
variable {P : Program} {X : FuncId → List AV → AV → List AV → Prop} {all : Array Oper} {R : (Nat → AV) → Prop} {Q : Ex → (Nat → AV) → Prop}
variable {g : Option (Nat × Bool)} {σ : Nat → AV} {env : Env} {d t : Nat} {l : List Oper} {ty : TypeId} {pos : String} {af : Array Edge} {α : Type} {f : α → List AV}
theorem qo_binG {op : BinOp} {x y : Operand} {tx : TypeId} {k : IntKind} {a b : Int} {c : Value} (hx : ov σ x = .sc (.int k a)) (hy : ov σ y = .sc (.int k b)) (h : binG op k a b = some c) : QO P σ (.binOp op tx x y ty) (cAV c) := by
  refine .pure _ c fun ρ o w ho hρ => ?_
  have e1 := hρ x _ (by rw [hx]; rfl)
  have e2 := hρ y _ (by rw [hy]; rfl)
  have h1 := binG_run (P := P) h w tx
  have hg : (eqGuard op tx x y (.int k a) (.int k b)).run P w = .ok () w := by
    unfold eqGuard
    cases op <;> rfl
  simp only [execOp, ho, e1, e2, Sem.run_bind, hg, Result.andThen_ok, h1, Sem.run_pure]
theorem WO.binG {op : BinOp} {x y : Operand} {tx ty2 : TypeId} {k : IntKind} {a b : Int} {c : Value} (hg : gg all (look env) g = some true) (hx : ov (look env) x = .sc (.int k a)) (hy : ov (look env) y = .sc (.int k b)) (h : Eng.binG op k a b = some c) (hc : cAV c = .sc c) (hn : nrE d env = true) (k : WO P X all l (look ((d, .sc c) :: env)) R) : WO P X all (⟨some d, .binOp op tx x y ty2, ty, pos, af, g⟩ :: l) (look env) R :=
  WO.q hg (.qo (by have := qo_binG (P := P) (ty := ty2) (tx := tx) hx hy h; rwa [hc] at this)) hn rfl k
/-- A number is turned into another kind. -/
theorem qo_conv {x : Operand} {src dst : TypeId} {k k' : IntKind} {n : Int} {u : TypeDesc} (hu : P.underlying src = some u) (hd : P.underlying dst = some (.int k')) (hx : ov σ x = .sc (.int k n)) : QO P σ (.convert src dst x) (.sc (.int k' (k'.wrap n))) := by
  refine QO.pure _ (.int k' (k'.wrap n)) fun ρ o w ho hρ => ?_
  have e1 := hρ x _ (by rw [hx]; rfl)
  simp [execOp, ho, e1, convert, run_underlying hu, run_underlying hd, Conv.intToInt]
end
/-- Types of numbers. -/
class NmT (P : Program) (t : TypeId) (k : outParam IntKind) : Prop where
  h : P.underlying t = some (.int k)
section
variable {P : Program} {X : FuncId → List AV → AV → List AV → Prop} {all : Array Oper} {R : (Nat → AV) → Prop}
variable {g : Option (Nat × Bool)} {env : Env} {d t : Nat} {l : List Oper} {ty : TypeId} {pos : String} {af : Array Edge}
theorem WO.conv {x : Operand} {src dst : TypeId} {k0 k k' : IntKind} {n n' : Int} [hS : NmT P src k0] [hD : NmT P dst k'] (hg : gg all (look env) g = some true) (hx : ov (look env) x = .sc (.int k n)) (hw : k'.wrap n = n') (hn : nrE d env = true) (k : WO P X all l (look ((d, .sc (.int k' n')) :: env)) R) : WO P X all (⟨some d, .convert src dst x, ty, pos, af, g⟩ :: l) (look env) R := by
  subst hw
  exact WO.q hg (.qo (qo_conv hS.h hD.h hx)) hn rfl k
/-- A shift to the right. -/
theorem qo_shr {σ : Nat → AV} {x y : Operand} {tx : TypeId} {k k' : IntKind} {a b c : Int} (hx : ov σ x = .sc (.int k a)) (hy : ov σ y = .sc (.int k' b)) (h0 : 0 ≤ b) (hc : a.fdiv (2 ^ (min b.toNat k.bits)) = c) : QO P σ (.binOp .shr tx x y ty) (.sc (.int k c)) := by
  refine .pure _ (.int k c) fun ρ o w ho hρ => ?_
  have e1 := hρ x _ (by rw [hx]; rfl)
  have e2 := hρ y _ (by rw [hy]; rfl)
  have hg : (eqGuard .shr tx x y (.int k a) (.int k' b)).run P w = .ok () w := by
    unfold eqGuard; rfl
  have hs : (binOp .shr tx (.int k a) (.int k' b)).run P w = .ok (.int k c) w := by
    simp [binOp, Op.shift, show ¬ b < 0 by omega, hc]
  simp only [execOp, ho, e1, e2, Sem.run_bind, hg, Result.andThen_ok, hs, Sem.run_pure]
theorem WO.shr {x y : Operand} {tx ty2 : TypeId} {k k' : IntKind} {a b c : Int} (hg : gg all (look env) g = some true) (hx : ov (look env) x = .sc (.int k a)) (hy : ov (look env) y = .sc (.int k' b)) (h0 : 0 ≤ b) (hc : a.fdiv (2 ^ (min b.toNat k.bits)) = c) (hn : nrE d env = true) (k : WO P X all l (look ((d, .sc (.int k c)) :: env)) R) : WO P X all (⟨some d, .binOp .shr tx x y ty2, ty, pos, af, g⟩ :: l) (look env) R :=
  WO.q hg (.qo (qo_shr hx hy h0 hc)) hn rfl k
/-- A shift to the left. -/
theorem qo_shl {σ : Nat → AV} {x y : Operand} {tx : TypeId} {k k' : IntKind} {a b c : Int} (hx : ov σ x = .sc (.int k a)) (hy : ov σ y = .sc (.int k' b)) (h0 : 0 ≤ b) (hc : k.wrap (a * 2 ^ (min b.toNat k.bits)) = c) : QO P σ (.binOp .shl tx x y ty) (.sc (.int k c)) := by
  refine .pure _ (.int k c) fun ρ o w ho hρ => ?_
  have e1 := hρ x _ (by rw [hx]; rfl)
  have e2 := hρ y _ (by rw [hy]; rfl)
  have hg : (eqGuard .shl tx x y (.int k a) (.int k' b)).run P w = .ok () w := by
    unfold eqGuard; rfl
  have hs : (binOp .shl tx (.int k a) (.int k' b)).run P w = .ok (.int k c) w := by
    simp [binOp, Op.shift, show ¬ b < 0 by omega, hc]
  simp only [execOp, ho, e1, e2, Sem.run_bind, hg, Result.andThen_ok, hs, Sem.run_pure]
theorem WO.shl {x y : Operand} {tx ty2 : TypeId} {k k' : IntKind} {a b c : Int} (hg : gg all (look env) g = some true) (hx : ov (look env) x = .sc (.int k a)) (hy : ov (look env) y = .sc (.int k' b)) (h0 : 0 ≤ b) (hc : k.wrap (a * 2 ^ (min b.toNat k.bits)) = c) (hn : nrE d env = true) (k : WO P X all l (look ((d, .sc (.int k c)) :: env)) R) : WO P X all (⟨some d, .binOp .shl tx x y ty2, ty, pos, af, g⟩ :: l) (look env) R :=
  WO.q hg (.qo (qo_shl hx hy h0 hc)) hn rfl k
/-- A struct is built. -/
theorem WO.bld {tx : TypeId} {parts : Array (Nat × Operand)} {cs : List AV} (hg : gg all (look env) g = some true) (hb : builtA P tx (parts.toList.map fun x => (x.1, ov (look env) x.2)) = some cs) (ha : nrL d cs = true) (hn : nrE d env = true) (k : WO P X all l (look ((d, .ag cs) :: env)) R) : WO P X all (⟨some d, .build tx parts, ty, pos, af, g⟩ :: l) (look env) R :=
  WO.q hg (.qo (.build tx parts cs hb)) hn (by simpa only [nrA] using ha) k
/-- A pointer that leads somewhere. -/
theorem WO.nilO {x : Operand} {r i : Nat} {p : List Nat} {cs : List AV} (hg : gg all (look env) g = some true) (hc : ov (look env) x = .ad r p i) (hr : nodeCells (look env) r p = some cs) (hrd : Nat.beq r d = false) (hn : nrE d env = true) (k : WO P X all l (look ((d, .ad r p i) :: env)) R) : WO P X all (⟨some d, .nilCheck x, ty, pos, af, g⟩ :: l) (look env) R :=
  WO.q hg (.qo (.nilCheck x (.ad r p i) (by rw [hc]; simp only [adv, hr, Option.map_some, Nat.add_zero]))) hn (by simp [nrA, hrd]) k
theorem WO.nilI {x : Operand} {cs : List AV} (hg : gg all (look env) g = some true) (hc : ov (look env) x = .ip cs) (hn : nrE d env = true) (k : WO P X all l (look ((d, .ip cs) :: env)) R) : WO P X all (⟨some d, .nilCheck x, ty, pos, af, g⟩ :: l) (look env) R :=
  WO.q hg (.qo (.nilCheck x (.ip cs) (by rw [hc]; rfl))) hn rfl k
theorem QE.nilO {x : Operand} {r i : Nat} {p : List Nat} {cs : List AV} (hc : ov (look env) x = .ad r p i) (hr : nodeCells (look env) r p = some cs) : Ev P X (.qe ⟨some d, .nilCheck x, ty, pos, af, g⟩ (look env) (.ad r p i)) :=
  .qo (.nilCheck x (.ad r p i) (by rw [hc]; simp only [adv, hr, Option.map_some, Nat.add_zero]))
theorem QE.flO {x : Operand} {s fd off r i : Nat} {p : List Nat} {cs : List AV} [hT : FlT P s fd off] (hc : ov (look env) x = .ad r p i) (hr : nodeCells (look env) r p = some cs) : Ev P X (.qe ⟨some d, .fieldAddr s x fd, ty, pos, af, g⟩ (look env) (.ad r p (i + off))) := by
  obtain ⟨fs, f', n, h1, h2, h3, h4, rfl⟩ := flT_some hT.h
  exact .qo (.fieldAddr s x fd n fs f' _ h1 h2 h3 h4 (by rw [hc]; simp only [adv, hr, Option.map_some]))
theorem QE.binG {o : BinOp} {x y : Operand} {tx ty2 : TypeId} {k : IntKind} {a b : Int} {v : Value} (hx : ov (look env) x = .sc (.int k a)) (hy : ov (look env) y = .sc (.int k b)) (h : Eng.binG o k a b = some v) (hc : cAV v = .sc v) : Ev P X (.qe ⟨some d, .binOp o tx x y ty2, ty, pos, af, g⟩ (look env) (.sc v)) :=
  .qo (by have := qo_binG (P := P) (ty := ty2) (tx := tx) hx hy h; rwa [hc] at this)
theorem QE.conv {x : Operand} {src dst : TypeId} {k0 k k' : IntKind} {n n' : Int} [hS : NmT P src k0] [hD : NmT P dst k'] (hx : ov (look env) x = .sc (.int k n)) (hw : k'.wrap n = n') : Ev P X (.qe ⟨some d, .convert src dst x, ty, pos, af, g⟩ (look env) (.sc (.int k' n'))) := by
  subst hw
  exact .qo (qo_conv hS.h hD.h hx)
/-- A plain value is stored into a variable: the operation alone. -/
theorem OE.st {x y : Operand} {tx r i : Nat} {cs cs' : List AV} {v : Value} [hT : OnT P tx] (hx : ov (look env) x = .ad r [] i) (hy : ov (look env) y = .sc v) (hr : look env r = .op cs) (hi : Nat.blt i cs.length = true) (hne : nbE r 0 env = true) (hc : cs.set i (.sc v) = cs') :
    Ev P X (.op ⟨none, .store tx x y, ty, pos, af, g⟩ (look env) (look ((r, .op cs') :: env))) := by
  subst hc
  have hs : modS (look env) r [] (isC r [] i) (withKids (.op cs) (cs.set i (.sc v))) = look ((r, .op (cs.set i (.sc v))) :: env) := modS_look (p := []) hne rfl
  have := Ev.store (P := P) (X := X) (o := ⟨none, .store tx x y, ty, pos, af, g⟩) (σ := look env) (σ1 := look env) (σ2 := look ((r, .op (cs.set i (.sc v))) :: env)) (vs := [.sc v]) (tr := .sc v) rfl hx (by simp only [nodeCells, getN, hr]; rfl) (by rw [hy]; exact .plain rfl (.nil _)) rfl hT.hs (by rw [← hs]; exact .cons (by simp only [getN]; rw [hr]) (.inr rfl) (Nat.le_of_ble_eq_true hi) (.nil _ _ _ _))
  exact this
/-- A quiet operation alone, in place of what was there. -/
theorem OE.q {op : Op} {av : AV} (h : Ev P X (.qe ⟨some d, op, ty, pos, af, g⟩ (look env) av)) (hn : nrE d env = true) (ha : nrA d av = true) : Ev P X (.op ⟨some d, op, ty, pos, af, g⟩ (look env) (look ((d, av) :: env))) := by
  have := Ev.quiet (P := P) (X := X) h
  simpa only [putD, put_look hn ha] using this
/-- A slice of one struct of plain parts. -/
theorem WO.b1A {tx e sz by_ : Nat} {z : Value} {zc cs : List AV} [hT : SlT P tx e sz] [hZ : ZrT P e by_ z zc] (hg : gg all (look env) g = some true) (ht : Nat.blt t HB = true) (hx : look env t = .ag cs) (hp : cs.all isPl = true) (hl : Nat.beq cs.length sz = true) (hz : Nat.beq zc.length sz = true) (h1 : Nat.ble sz 16777216 = true) (hn : nrE d env = true)
    (k : WO P X all l (look ((d, .ow e sz 1 cs) :: env)) R) : WO P X all (⟨some d, .buildSlice tx 1 #[(0, .tmp t)], ty, pos, af, g⟩ :: l) (look env) R := by
  have hsz := zr_size hZ hz
  have hl' := Nat.eq_of_beq_eq_true hl
  have hf : fillA (fun i => some (i * sz, sz)) ((madeCells z.cells (1 * sz)).toList.map c1) [(0, .ag cs)] = some cs := by
    have hlen : ((madeCells z.cells (1 * sz)).toList.map c1).length = sz := by simp [madeCells]
    generalize (madeCells z.cells (1 * sz)).toList.map c1 = ys at hlen
    simp [fillA, acells, splice, hl', hlen]
  refine WO.op (σ1 := put (look env) d (.ow e sz 1 cs)) (gg_goes hg) (.buildS (us := [.ag cs]) rfl rfl hT.ht hT.hs hZ.hz hsz hT.h0 (by have := Nat.le_of_ble_eq_true h1; omega) hZ.h1 (by simp only [List.map_cons, List.map_nil, ov, ht, cond_true, hx, refT, refL_pl hp]; exact .ag (TakeL.pls hp) (.nil _)) hf) ?_
  rw [put_look hn rfl]; exact k
/-- A pointer to a variable is handed back. -/
theorem retD {r n : Nat} {cs : List AV} {res : AV} {fin : List AV} {ex : Ex} (hx : ov (look env) (.tmp t) = .ad r [] 0) (hr : look env r = .op cs) (hres : .op cs = res) (hf : fins n (look ((r, .dead) :: env)) = fin) (hn : fin.all noRf = true) (he : ex = .normal ∨ ex = .ret := by simp) :
    (ex = .normal ∨ ex = .ret) ∧ ∃ as rs σ2, ResL P (look env) [.tmp t] as ∧ TakeL (look env) as rs σ2 ∧ resOf rs = res ∧ fins n σ2 = fin ∧ fin.all noRf = true := by
  subst hres
  refine ⟨he, _, [.op cs], look ((r, .dead) :: env), .tmp t .nil, ?_, rfl, hf, hn⟩
  rw [hx]
  have := TakeL.ad (σ := look env) (σ' := setS (look env) r [] .dead) (r := r) (p := []) (cs := cs) (as := []) (ts := []) (by simp [getN, hr]) (.nil _)
  have e2 : setS (look env) r [] .dead = look ((r, .dead) :: env) := by rw [← look_upd]; rfl
  rwa [e2] at this
/-- A function whose result is told by a property. -/
theorem Ev.fnE {f : FuncId} {F : Func} {c : Code} {args : List AV} {env : Env} (G : AV → List AV → Prop) (hF : P.funcs[f]? = some F) (hc : F.body = some c) (hnm : (F.name == "runtime.NumGoroutine") = false) (hN : Nat.ble F.ntmps HB = true) (hA : Nat.ble args.length F.ntmps = true) (hK : codeOk F.ntmps c = true) (he : Keep (enter args) env)
    (h : WC P X c (look env) fun ex σ1 => (ex = .normal ∨ ex = .ret) ∧ ∃ as rs σ2, ResL P σ1 F.results.toList as ∧ TakeL σ1 as rs σ2 ∧ (fins args.length σ2).all noRf = true ∧ G (resOf rs) (fins args.length σ2)) : ∃ res fin, Ev P X (.fn f args res fin) ∧ G res fin := by
  obtain ⟨ex, σ1, h1, hx, as, rs, σ2, h2, h3, h4, h5⟩ := h
  exact ⟨_, _, .fn hF hc hnm (Nat.le_of_ble_eq_true hN) (Nat.le_of_ble_eq_true hA) hK (.drop he.drop h1) hx h2 h3 h4, h5⟩
theorem retVE {n : Nat} {v : Value} {fin : List AV} {ex : Ex} {G : AV → List AV → Prop} (hx : ov (look env) (.tmp t) = .sc v) (hf : fins n (look env) = fin) (hn : fin.all noRf = true) (hG : G (.sc v) fin) (he : ex = .normal ∨ ex = .ret := by simp) :
    (ex = .normal ∨ ex = .ret) ∧ ∃ as rs σ2, ResL P (look env) [.tmp t] as ∧ TakeL (look env) as rs σ2 ∧ (fins n σ2).all noRf = true ∧ G (resOf rs) (fins n σ2) := by
  subst hf
  exact ⟨he, _, [.sc v], look env, .tmp t .nil, by rw [hx]; exact .plain rfl (.nil _), hn, hG⟩
theorem retDE {r n : Nat} {cs : List AV} {fin : List AV} {ex : Ex} {G : AV → List AV → Prop} (hx : ov (look env) (.tmp t) = .ad r [] 0) (hr : look env r = .op cs) (hf : fins n (look ((r, .dead) :: env)) = fin) (hn : fin.all noRf = true) (hG : G (.op cs) fin) (he : ex = .normal ∨ ex = .ret := by simp) :
    (ex = .normal ∨ ex = .ret) ∧ ∃ as rs σ2, ResL P (look env) [.tmp t] as ∧ TakeL (look env) as rs σ2 ∧ (fins n σ2).all noRf = true ∧ G (resOf rs) (fins n σ2) := by
  subst hf
  refine ⟨he, _, [.op cs], look ((r, .dead) :: env), .tmp t .nil, ?_, hn, hG⟩
  rw [hx]
  have := TakeL.ad (σ := look env) (σ' := setS (look env) r [] .dead) (r := r) (p := []) (cs := cs) (as := []) (ts := []) (by simp [getN, hr]) (.nil _)
  have e2 : setS (look env) r [] .dead = look ((r, .dead) :: env) := by rw [← look_upd]; rfl
  rwa [e2] at this
/-! Appends behind what another register owns. -/
theorem tkV {r n e sz : Nat} {cs as ts : List AV} {σ' : Nat → AV} (hr : look env r = .ow e sz n cs) (hl : cs.length = n * sz) (k : TakeL (look ((r, .dead) :: env)) as ts σ') : TakeL (look env) (.vw r [] 0 n :: as) (.ow e sz n cs :: ts) σ' := by
  have e1 : setS (look env) r [] .dead = look ((r, .dead) :: env) := by rw [← look_upd]; rfl
  have h1 := TakeL.vw (σ := look env) (σ' := σ') (r := r) (n := n) (p := []) (e := e) (sz := sz) (m := n) (cs := cs) (by simp [getN, hr]) (Nat.le_refl _) (by rw [e1]; exact k)
  rwa [List.take_of_length_le (by omega)] at h1
theorem WO.apVI {s x : Operand} {tx e sz by_ n m r : Nat} {z : Value} {cs L zc : List AV} [hT : SlT P tx e sz] [hZ : ZrT P e by_ z zc] (hg : gg all (look env) g = some true) (hs : ov (look env) s = .vw r [] 0 n) (hr : look env r = .ow e sz n cs) (hl : cs.length = n * sz) (hx : ov (look env) x = .im m L) (hL : L.length = m * sz) (hz : Nat.beq zc.length sz = true) (h63 : n + m ≤ maxLen) (hby : (n + m) * by_ ≤ 140737488355328) (hn : nrE d env = true)
    (k : WO P X all l (look ((d, .ow e sz (n + m) (cs ++ L)) :: (r, .dead) :: env)) R) : WO P X all (⟨some d, .call { callee := .builtin .append, args := #[s, x], argTypes := #[tx, tx] }, ty, pos, af, g⟩ :: l) (look env) R := by
  refine WO.op (σ1 := put (look ((r, .dead) :: env)) d (.ow e sz (n + m) (cs ++ L))) (gg_goes hg) (.appendC (z := z) rfl rfl hT.ht hT.hs hZ.hb hZ.hz (zr_size hZ hz) hT.h0 (by rw [hs]; exact tkV hr hl (.nil _)) (.ow n cs) (by rw [hx]; exact .im m L) hL h63 hby) ?_
  rw [put_look (by simp only [nrE, nrA, hn, Bool.and_self]) rfl]
  exact k
theorem WO.apVM {s x : Operand} {tx e sz by_ n m r r2 : Nat} {z : Value} {cs L zc : List AV} [hT : SlT P tx e sz] [hZ : ZrT P e by_ z zc] (hg : gg all (look env) g = some true) (hs : ov (look env) s = .vw r [] 0 n) (hr : look env r = .ow e sz n cs) (hl : cs.length = n * sz) (hx : ov (look env) x = .vw r2 [] 0 m) (hr2 : look env r2 = .ow e sz m L) (hL : L.length = m * sz) (hrr : Nat.beq r r2 = false) (hz : Nat.beq zc.length sz = true) (h63 : n + m ≤ maxLen) (hby : (n + m) * by_ ≤ 140737488355328) (hn : nrE d env = true)
    (k : WO P X all l (look ((d, .ow e sz (n + m) (cs ++ L)) :: (r2, .dead) :: (r, .dead) :: env)) R) : WO P X all (⟨some d, .call { callee := .builtin .append, args := #[s, x], argTypes := #[tx, tx] }, ty, pos, af, g⟩ :: l) (look env) R := by
  have hr3 : look ((r, .dead) :: env) r2 = .ow e sz m L := by simp only [look, hrr, cond_false]; exact hr2
  refine WO.op (σ1 := put (look ((r2, .dead) :: (r, .dead) :: env)) d (.ow e sz (n + m) (cs ++ L))) (gg_goes hg) (.appendM (σ2 := look env) (z := z) rfl rfl hT.ht hT.hs hZ.hb hZ.hz (zr_size hZ hz) hT.h0 (by rw [hs, hx]; exact tkV hr hl (tkV hr3 hL (.nil _))) (.ow n cs) h63 hby) ?_
  rw [put_look (by simp only [nrE, nrA, hn, Bool.and_self]) rfl]
  exact k
/-- A call that turns what its first argument, a pointer, leads to; the others are plain. -/
theorem WO.callD {fn : FuncId} {x0 : Operand} {xs : List Operand} {ts : Array TypeId} {r : Nat} {cs cs' : List AV} {az fin : List AV} {res : AV} (hg : gg all (look env) g = some true) (hx : ov (look env) x0 = .ad r [] 0) (hr : look env r = .op cs) (ha : xs.map (ov (look env)) = az) (hp : az.all isPlA = true)
    (hf : Ev P X (.fn fn (.op cs :: az) res (.op cs' :: fin))) (hfl : fin.length = az.length) (hne : nbE r 0 env = true) (hd : nrE d env = true) (hdr : nrA d res = true)
    (k : WO P X all l (look ((d, res) :: (r, .op cs') :: env)) R) : WO P X all (⟨some d, .call { callee := .value (.func fn), args := (x0 :: xs).toArray, argTypes := ts }, ty, pos, af, g⟩ :: l) (look env) R := by
  have e1 : setS (look env) r [] .dead = look ((r, .dead) :: env) := by rw [← look_upd]; rfl
  have hT : TakeF (look env) [.ad r [] 0] [.op cs] (look ((r, .dead) :: env)) := by
    have := TakeF.ad (σ := look env) (σ' := look ((r, .dead) :: env)) (r := r) (p := []) (cs := cs) (as := []) (ts := []) (by simp [getN, hr]) (by rw [e1]; exact .nil _)
    exact this
  have hro : ∀ (as : List AV) {σ σ' : Nat → AV}, as.all isPlA = true → PassL σ σ' (List.replicate as.length false) as as σ' := by
    intro as
    induction as with
    | nil => intro σ σ' _; exact .nil _
    | cons a as ih =>
      intro σ σ' h
      simp only [List.all_cons, Bool.and_eq_true] at h
      exact .ro (FrzL.plains (by simp only [List.all_cons, h.1, List.all_nil, Bool.and_self])) (ih h.2)
  have hbk : ∀ (as bs : List AV) {σ' : Nat → AV}, bs.length = as.length → BackL σ' (List.replicate as.length false) as bs σ' := by
    intro as
    induction as with
    | nil => intro bs σ' h; cases bs with
      | nil => exact .nil _
      | cons b bs => simp at h
    | cons a as ih =>
      intro bs σ' h
      cases bs with
      | nil => simp at h
      | cons b bs => exact .skip (ih bs (by simpa using h))
  have hrp : ∀ (as : List AV), as.all isPlA = true → roPl (List.replicate as.length false) as = true := by
    intro as
    induction as with
    | nil => intro _; rfl
    | cons a as ih =>
      intro h
      simp only [List.all_cons, Bool.and_eq_true] at h
      simp only [List.length_cons, List.replicate_succ, roPl, h.1, ih h.2, Bool.and_self]
  have hor : ∀ (k : Nat) (as : List AV), owRefs (List.replicate k false) as = [] := by
    intro k
    induction k with
    | zero => intro as; cases as <;> rfl
    | succ k ih => intro as; cases as with
      | nil => rfl
      | cons t ts => simp only [List.replicate_succ, owRefs]; exact ih ts
  have hm : modS (look ((r, .dead) :: env)) r [] (isU r []) (.op cs') = look ((r, .op cs') :: (r, .dead) :: env) :=
    modS_lookU (r := r) (p := []) (e := (r, .dead) :: env) (x := .op cs') (by simp only [List.length_nil, nbE, nbA, hne, Bool.and_self]) rfl
  have hov : (x0 :: xs).toArray.toList.map (ov (look env)) = .ad r [] 0 :: az := by simp only [List.map_cons, hx, ha]
  refine WO.op (σ1 := putD (look ((r, .op cs') :: (r, .dead) :: env)) (some d) res) (gg_goes hg) (.call (ms := true :: List.replicate az.length false) (σ1 := look ((r, .dead) :: env)) rfl ?_ hf (.inr ?_) ?_ ?_) ?_
  · rw [hov]; exact .own hT (hro az hp)
  · rw [hov]; simp only [roPl]; exact hrp az hp
  · rw [hov]; simp [owRefs, hor, refs, stab, isU]
  · rw [hov]; refine .ad (by simp [look, getN]) ?_; rw [hm]; exact hbk az fin hfl
  · simp only [putD]
    rw [put_look (by simp only [nrE, nrA, hd, Bool.and_self]) hdr, look_dup2]
    exact k
/-- What a register owns, at a place, is only read from now on. -/
theorem WO.hard {r : Nat} {p : List Nat} {x y : AV} (hn : getN p (look env r) = some x) (hx : isOw x = true) (hy : setN p (look env r) (Eng.hard x) = y) (k : WO P X all l (look ((r, y) :: env)) R) : WO P X all l (look env) R := by
  subst hy
  obtain ⟨σ2, h1, h2⟩ := k
  refine ⟨σ2, .opsHard (r := r) (p := p) hn hx ?_, h2⟩
  rw [setS_look]; exact h1
theorem WO.castAt {r : Nat} {p : List Nat} {y : AV} (e sz : Nat) (h0 : 0 < sz) (hn : getN p (look env r) = some .nl) (hy : setN p (look env r) (.ow e sz 0 []) = y) (k : WO P X all l (look ((r, y) :: env)) R) : WO P X all l (look env) R := by
  subst hy
  obtain ⟨σ2, h1, h2⟩ := k
  refine ⟨σ2, .opsCast (r := r) (p := p) hn (.ow e sz h0) ?_, h2⟩
  rw [setS_look]; exact h1
end
end Go.Eng
/- The engine, part Y: the script that takes the plain steps. -/
namespace Go.Eng
open Go Go.RowKit
set_option linter.unusedVariables false
set_option linter.unusedSimpArgs false
section
variable {P : Program} {X : FuncId → List AV → AV → List AV → Prop} {env : Env} {g : Option (Nat × Bool)} {d t : Nat} {ty : TypeId} {pos : String} {af : Array Edge} {op : Op}
theorem QE.mvIp {x : Operand} {cs : List AV} (hop : MV op x) (hx : ov (look env) x = .ip cs) : Ev P X (.qe ⟨some d, op, ty, pos, af, g⟩ (look env) (.ip cs)) := .qo (by have := hop.qo (P := P) (env := env); rwa [hx] at this)
theorem QE.mvNl {x : Operand} (hop : MV op x) (hx : ov (look env) x = .nl) : Ev P X (.qe ⟨some d, op, ty, pos, af, g⟩ (look env) .nl) := .qo (by have := hop.qo (P := P) (env := env); rwa [hx] at this)
theorem QE.mvAg {cs : List AV} (hop : MV op (.tmp t)) (ht : Nat.blt t HB = true) (hx : look env t = .ag cs) (hp : cs.all isPl = true) : Ev P X (.qe ⟨some d, op, ty, pos, af, g⟩ (look env) (.ag cs)) :=
  .qo (by have := hop.qo (P := P) (env := env); rwa [show ov (look env) (.tmp t) = .ag cs by simp only [ov, ht, cond_true, hx, refT, refL_pl hp]] at this)
theorem QE.nilI {x : Operand} {cs : List AV} (hc : ov (look env) x = .ip cs) : Ev P X (.qe ⟨some d, .nilCheck x, ty, pos, af, g⟩ (look env) (.ip cs)) := .qo (.nilCheck x (.ip cs) (by rw [hc]; rfl))
theorem QE.lenO {x : Operand} {tx e sz r off n e' sz' m : Nat} {p : List Nat} {cs : List AV} [hT : SlT P tx e sz] (hx : ov (look env) x = .vw r p off n) (hr : getN p (look env r) = some (.ow e' sz' m cs)) : Ev P X (.qe ⟨some d, .call { callee := .builtin .len, args := #[x], argTypes := #[tx] }, ty, pos, af, g⟩ (look env) (.sc (.int .i64 n))) := .qo (.lenV tx x e r off n e' sz' m p cs hT.ht hx hr)
theorem QE.len0 {x : Operand} {tx e sz : Nat} [hT : SlT P tx e sz] (hx : ov (look env) x = .nl) : Ev P X (.qe ⟨some d, .call { callee := .builtin .len, args := #[x], argTypes := #[tx] }, ty, pos, af, g⟩ (look env) (.sc (.int .i64 0))) := .qo (.lenN tx x e hT.ht hx)
theorem QE.add {x y : Operand} {tx ty2 : TypeId} {a b : Int} (hx : ov (look env) x = .sc (.int .i64 a)) (hy : ov (look env) y = .sc (.int .i64 b)) (h0 : -9223372036854775808 ≤ a + b) (h1 : a + b ≤ 9223372036854775807) : Ev P X (.qe ⟨some d, .binOp .add tx x y ty2, ty, pos, af, g⟩ (look env) (.sc (.int .i64 (a + b)))) :=
  QE.bin (v := .int .i64 (a + b)) hx hy (by simp only [bin64, w64 h0 h1]) rfl
theorem QE.sub {x y : Operand} {tx ty2 : TypeId} {a b : Int} (hx : ov (look env) x = .sc (.int .i64 a)) (hy : ov (look env) y = .sc (.int .i64 b)) (h0 : -9223372036854775808 ≤ a - b) (h1 : a - b ≤ 9223372036854775807) : Ev P X (.qe ⟨some d, .binOp .sub tx x y ty2, ty, pos, af, g⟩ (look env) (.sc (.int .i64 (a - b)))) :=
  QE.bin (v := .int .i64 (a - b)) hx hy (by simp only [bin64, w64 h0 h1]) rfl
theorem QE.cmpT {o : BinOp} {x y : Operand} {tx ty2 : TypeId} {a b : Int} {p : Prop} [Decidable p] (hx : ov (look env) x = .sc (.int .i64 a)) (hy : ov (look env) y = .sc (.int .i64 b)) (h : bin64 o a b = some (.bool (decide p))) (hp : p) : Ev P X (.qe ⟨some d, .binOp o tx x y ty2, ty, pos, af, g⟩ (look env) (.sc (.bool true))) :=
  QE.bin hx hy (by rw [h]; simp only [hp, decide_true]) rfl
theorem QE.cmpF {o : BinOp} {x y : Operand} {tx ty2 : TypeId} {a b : Int} {p : Prop} [Decidable p] (hx : ov (look env) x = .sc (.int .i64 a)) (hy : ov (look env) y = .sc (.int .i64 b)) (h : bin64 o a b = some (.bool (decide p))) (hp : ¬ p) : Ev P X (.qe ⟨some d, .binOp o tx x y ty2, ty, pos, af, g⟩ (look env) (.sc (.bool false))) :=
  QE.bin hx hy (by rw [h]; simp only [hp, decide_false]) rfl
/-- A whole variable, a struct of plain parts. -/
theorem QE.ldA0 {x : Operand} {tx s r : Nat} {cs : List AV} [hT : AgT P tx s] (hx : ov (look env) x = .ad r [] 0) (hr : look env r = .op cs) (hl : Nat.beq cs.length s = true) (hp : cs.all isPl = true) : Ev P X (.qe ⟨some d, .load tx x, ty, pos, af, g⟩ (look env) (.ag cs)) := by
  have hl := Nat.eq_of_beq_eq_true hl
  refine .qo (.load tx x (.ag cs) (.many cs s hT.ht hT.hs hl hT.h0 fun k hk => ?_))
  have hk' : k < cs.length := by omega
  rw [hx]
  simp only [cell, nodeCells, getN, hr, Option.bind_some, Nat.zero_add, List.getElem?_eq_getElem hk', Option.map_some, refT_pl (List.all_eq_true.1 hp _ (List.getElem_mem _))]
theorem QE.ldAI {x : Operand} {tx s : Nat} {cs : List AV} [hT : AgT P tx s] (hx : ov (look env) x = .ip cs) (hl : Nat.beq cs.length s = true) : Ev P X (.qe ⟨some d, .load tx x, ty, pos, af, g⟩ (look env) (.ag cs)) := by
  have hl := Nat.eq_of_beq_eq_true hl
  exact .qo (.load tx x (.ag cs) (.many cs s hT.ht hT.hs hl hT.h0 fun k hk => by rw [hx]; rfl))
theorem QE.bld {tx : TypeId} {parts : Array (Nat × Operand)} {cs : List AV} (hb : builtA P tx (parts.toList.map fun x => (x.1, ov (look env) x.2)) = some cs) : Ev P X (.qe ⟨some d, .build tx parts, ty, pos, af, g⟩ (look env) (.ag cs)) := .qo (.build tx parts cs hb)
theorem QE.pick {c x y : Operand} {b : Bool} {av : AV} (hc : ov (look env) c = .sc (.bool b)) (hx : (bif b then ov (look env) x else ov (look env) y) = av) : Ev P X (.qe ⟨some d, .pick c x y, ty, pos, af, g⟩ (look env) av) := .qo (hx ▸ .pick c x y b hc)
theorem QE.pickT {c x y : Operand} {v : Value} (hc : ov (look env) c = .sc (.bool true)) (hx : ov (look env) x = .sc v) : Ev P X (.qe ⟨some d, .pick c x y, ty, pos, af, g⟩ (look env) (.sc v)) := QE.pick (b := true) hc hx
theorem QE.pickF {c x y : Operand} {v : Value} (hc : ov (look env) c = .sc (.bool false)) (hx : ov (look env) y = .sc v) : Ev P X (.qe ⟨some d, .pick c x y, ty, pos, af, g⟩ (look env) (.sc v)) := QE.pick (b := false) hc hx
/-- A comparison. -/
theorem QE.cmp {o : BinOp} {x y : Operand} {tx ty2 : TypeId} {a b : Int} {p : Prop} [Decidable p] (q : Bool) (hx : ov (look env) x = .sc (.int .i64 a)) (hy : ov (look env) y = .sc (.int .i64 b)) (h : bin64 o a b = some (.bool (decide p))) (hq : q = true ↔ p) : Ev P X (.qe ⟨some d, .binOp o tx x y ty2, ty, pos, af, g⟩ (look env) (.sc (.bool q))) := by
  have e : decide p = q := by by_cases hp : p <;> cases q <;> simp_all
  rw [e] at h
  exact QE.bin hx hy h rfl
end
section
variable {P : Program} {X : FuncId → List AV → AV → List AV → Prop} {all : Array Oper} {R : (Nat → AV) → Prop} {env : Env} {g : Option (Nat × Bool)} {d t : Nat} {l : List Oper} {ty : TypeId} {pos : String} {af : Array Edge} {op : Op} {av : AV}
/-- What comes behind a quiet step. -/
structure WOn (P : Program) (X : FuncId → List AV → AV → List AV → Prop) (all : Array Oper) (l : List Oper) (R : (Nat → AV) → Prop) (d : Nat) (env : Env) (av : AV) : Prop where
  h1 : nrE d env = true
  h2 : nrA d av = true
  k : WO P X all l (look ((d, av) :: env)) R
theorem WO.q2 (hg : gg all (look env) g = some true) (h : Ev P X (.qe ⟨some d, op, ty, pos, af, g⟩ (look env) av)) (k : WOn P X all l R d env av) : WO P X all (⟨some d, op, ty, pos, af, g⟩ :: l) (look env) R := WO.q hg h k.h1 k.h2 k.k
end
section
variable {P : Program} {X : FuncId → List AV → AV → List AV → Prop} {all : Array Oper} {R : (Nat → AV) → Prop} {env : Env} {g : Option (Nat × Bool)} {d t : Nat} {l : List Oper} {ty : TypeId} {pos : String} {af : Array Edge}
/-- A slice that is owned is handed back. -/
theorem retOE {n e sz m r : Nat} {cs : List AV} {fin : List AV} {ex : Ex} {G : AV → List AV → Prop} (hx : ov (look env) (.tmp t) = .vw r [] 0 m) (hr : look env r = .ow e sz m cs) (hl : cs.length = m * sz) (hf : fins n (look ((r, .dead) :: env)) = fin) (hn : fin.all noRf = true) (hG : G (.ow e sz m cs) fin) (he : ex = .normal ∨ ex = .ret := by simp) :
    (ex = .normal ∨ ex = .ret) ∧ ∃ as rs σ2, ResL P (look env) [.tmp t] as ∧ TakeL (look env) as rs σ2 ∧ (fins n σ2).all noRf = true ∧ G (resOf rs) (fins n σ2) := by
  subst hf
  refine ⟨he, _, [.ow e sz m cs], look ((r, .dead) :: env), .tmp t .nil, ?_, hn, hG⟩
  rw [hx]
  have := TakeL.vw (σ := look env) (σ' := setS (look env) r [] .dead) (r := r) (n := m) (p := []) (e := e) (sz := sz) (m := m) (cs := cs) (as := []) (ts := []) (by simp [getN, hr]) (Nat.le_refl _) (.nil _)
  rw [List.take_of_length_le (by omega)] at this
  have e2 : setS (look env) r [] .dead = look ((r, .dead) :: env) := by rw [← look_upd]; rfl
  rwa [e2] at this
/-- A nil slice stands in for an empty one that is only read. -/
theorem WO.castI {r : Nat} {p : List Nat} {y : AV} (hn : getN p (look env r) = some .nl) (hy : setN p (look env r) (.im 0 []) = y) (k : WO P X all l (look ((r, y) :: env)) R) : WO P X all l (look env) R := by
  subst hy
  obtain ⟨σ2, h1, h2⟩ := k
  refine ⟨σ2, .opsCast (r := r) (p := p) hn .im ?_, h2⟩
  rw [setS_look]; exact h1
end
structure Hide (q : Prop) : Prop where
  out : q
/-- Plain steps are taken; what is left is shown. -/
theorem go {p q : Prop} (k : q) (h : Hide q → p := by
    intro k
    repeat (first
      | (apply WO.q2
         exact rfl
         (first
          | exact QE.mvSc (.move _) rfl
          | exact QE.ldO rfl rfl rfl rfl
          | exact QE.flO rfl rfl
          | exact QE.mvSc (.assign _) rfl
          | exact QE.ldI rfl rfl
          | exact QE.flI rfl
          | exact QE.mvAd (.move _) rfl
          | exact QE.mvIm (.move _) rfl
          | exact QE.len rfl
          | exact QE.cmpT rfl rfl rfl (by first | assumption | omega)
          | exact QE.cmpF rfl rfl rfl (by omega)
          | exact QE.add rfl rfl (by omega) (by omega)
          | exact QE.ldA0 rfl rfl rfl rfl
          | exact QE.ldAI rfl rfl
          | exact QE.sub rfl rfl (by omega) (by omega)
          | exact QE.nilO rfl rfl
          | exact QE.nilI rfl
          | exact QE.mvIp (.move _) rfl
          | exact QE.mvVw (.move _) rfl
          | exact QE.lenO rfl rfl
          | exact QE.not rfl
          | exact QE.pickT rfl rfl
          | exact QE.pickF rfl rfl
          | exact QE.mvNl (.move _) rfl
          | exact QE.mvAg (.move _) rfl rfl rfl
          | exact QE.mvIm (.assign _) rfl
          | exact QE.mvNl (.assign _) rfl
          | exact QE.mvIp (.assign _) rfl
          | exact QE.mvAg (.assign _) rfl rfl rfl
          | exact QE.len0 rfl)
         refine ⟨rfl, rfl, ?_⟩)
      | refine WO.nil ?_
      | refine WC.seq ?_
      | refine WC.region ?_
      | refine seqK.normal ?_
      | refine seqK.ret ?_
      | refine seqK.exit ?_
      | refine blkK.normal ?_
      | refine blkK.here ?_
      | refine blkK.exit rfl ?_
      | refine blkK.ret ?_
      | refine WC.block ?_
      | refine WC.skip ?_
      | refine WC.ret ?_
      | refine WC.exit ?_
      | refine lpK.exit ?_
      | refine lpK.ret ?_
      | refine WC.condT rfl ?_
      | refine WC.condF rfl ?_
      | refine WO.skip rfl rfl ?_
      | refine WO.takeOw rfl (.assign _) rfl rfl (by first | exact encL_length _ | rfl | (rw [encL_length]; simp) | simp) rfl ?_
      | refine WO.takeOp rfl (.assign _) rfl rfl rfl ?_
      | (apply WO.q2
         exact rfl
         (first | exact QE.mvAd (.assign _) rfl | exact QE.mvVw (.assign _) rfl)
         refine ⟨rfl, rfl, ?_⟩)
      | refine WDK.mk ?_
      | exact WK.mk' (by first | exact .cons _ (.nil _) | exact .cons _ (.cons _ (.nil _)) | exact .cons _ (.cons _ (.cons _ (.nil _))))
      | refine WD.nil ?_
      | (apply WD.q2
         exact rfl
         exact rfl
         exact rfl
         exact rfl
         exact rfl
         (first
          | exact QE.mvSc (.move _) rfl
          | exact QE.ldO rfl rfl rfl rfl
          | exact QE.flO rfl rfl
          | exact QE.ldI rfl rfl
          | exact QE.flI rfl
          | exact QE.mvAd (.move _) rfl
          | exact QE.mvIm (.move _) rfl
          | exact QE.len rfl
          | exact QE.cmpT rfl rfl rfl (by first | assumption | omega)
          | exact QE.cmpF rfl rfl rfl (by omega)
          | exact QE.add rfl rfl (by omega) (by omega)
          | exact QE.ldA0 rfl rfl rfl rfl
          | exact QE.ldAI rfl rfl
          | exact QE.sub rfl rfl (by omega) (by omega)
          | exact QE.nilO rfl rfl
          | exact QE.nilI rfl
          | exact QE.mvIp (.move _) rfl
          | exact QE.mvVw (.move _) rfl
          | exact QE.lenO rfl rfl
          | exact QE.not rfl
          | exact QE.pickT rfl rfl
          | exact QE.pickF rfl rfl
          | exact QE.mvNl (.move _) rfl
          | exact QE.mvAg (.move _) rfl rfl rfl
          | exact QE.len0 rfl)
         refine ⟨rfl, rfl, rfl, ?_⟩)
      | refine WD.skip rfl rfl rfl rfl rfl rfl rfl ?_
      | refine WD.mut rfl rfl rfl ?_)
    exact k.out) : p := h ⟨k⟩
end Go.Eng
/- The engine, part Yb: calls that turn something, beside other steps of a drawn region. -/
namespace Go.Eng
open Go Go.RowKit
set_option linter.unusedVariables false
set_option linter.unusedSimpArgs false
theorem nrE_deE {d : Nat} {H : List Nat} : ∀ (e : Env), nrE d e = true → nrE d (deE H e) = true
  | [], _ => rfl
  | (r, a) :: e, h => by
    simp only [nrE, Bool.and_eq_true] at h
    simp only [deE]
    cases memN r H
    · simp only [cond_false, nrE, h.1, nrE_deE e h.2, Bool.and_self]
    · exact nrE_deE e h.2
theorem nbE_deE {d m : Nat} {H : List Nat} : ∀ (e : Env), nbE d m e = true → nbE d m (deE H e) = true
  | [], _ => rfl
  | (r, a) :: e, h => by
    simp only [nbE, Bool.and_eq_true] at h
    simp only [deE]
    cases memN r H
    · simp only [cond_false, nbE, h.1, nbE_deE e h.2, Bool.and_self]
    · exact nbE_deE e h.2
section
variable {P : Program} {X : FuncId → List AV → AV → List AV → Prop} {all : Array Oper} {ri : RI} {l : List Nat} {R : (Nat → AV) → Prop}
variable {g : Option (Nat × Bool)} {env : Env} {d t i : Nat} {ty : TypeId} {pos : String} {af : Array Edge}
/-- A call that turns what its first argument, a pointer, leads to, beside others. -/
theorem WD.callD {fn : FuncId} {x0 : Operand} {xs : List Operand} {ts : Array TypeId} {r : Nat} {cs cs' : List AV} {az fin : List AV} {res : AV} {HD H : List Nat} {gm : Bool} (hi : all[i]? = some ⟨some d, .call { callee := .value (.func fn), args := (x0 :: xs).toArray, argTypes := ts }, ty, pos, af, g⟩) (hq : ri.quiet.contains i = false) (hT : gTn ri.gen i = some [r]) (ht : ri.tab[i]? = some (HD, H, gm))
    (hg : gg all (look (deE H env)) g = some true) (hx : ov (look (deE H env)) x0 = .ad r [] 0) (hr : look (deE H env) r = .op cs) (hr2 : noRf (look env r) = true) (ha : xs.map (ov (look (deE H env))) = az) (hp : az.all isPlA = true)
    (hf : Ev P X (.fn fn (.op cs :: az) res (.op cs' :: fin))) (hfl : fin.length = az.length) (hne : nbE r 0 env = true) (hrd : Nat.beq r d = false) (hd : nrE d env = true) (hd2 : look env d = .dead) (hdr : nrA d res = true) (hok : okA (badD d HD H gm [r]) res = true) (hc : chkE [d] H env = true)
    (k : WD P X all ri l (look ((d, res) :: (r, .op cs') :: env)) R) : WD P X all ri (i :: l) (look env) R := by
  have hne' : Nat.beq d r = false := by
    cases h : Nat.beq d r
    · rfl
    · rw [Nat.eq_of_beq_eq_true h] at hrd; simp at hrd
  refine WD.gen [(d, res), (r, .op cs')] hi hq hT ht rfl ?_ ?_ ?_ ?_ ?_ ?_ hc (.cons _ (.cons _ (.nil _))) k
  · refine WO.callD hg hx hr ha hp hf hfl (nbE_deE env hne) (nrE_deE env hd) hdr (WO.nil (WK.mk' (.cons _ (.cons _ (.nil _)))))
  · simp
  · simp
  · simp only [Option.toList, List.all_cons, List.all_nil, hd, look, Nat.beq_refl, cond_true, hok, Bool.and_self]
  · exact ⟨hd2, trivial⟩
  · simp only [List.all_cons, List.all_nil, hr2, look, hne', cond_false, Nat.beq_refl, cond_true, noRf, Bool.and_self]
/-- The same, and what it gives is only read from now on. -/
theorem WD.callDH {fn : FuncId} {x0 : Operand} {xs : List Operand} {ts : Array TypeId} {r e sz n : Nat} {cs cs' cs0 : List AV} {az fin : List AV} {HD H : List Nat} {gm : Bool} (hi : all[i]? = some ⟨some d, .call { callee := .value (.func fn), args := (x0 :: xs).toArray, argTypes := ts }, ty, pos, af, g⟩) (hq : ri.quiet.contains i = false) (hT : gTn ri.gen i = some [r]) (ht : ri.tab[i]? = some (HD, H, gm))
    (hg : gg all (look (deE H env)) g = some true) (hx : ov (look (deE H env)) x0 = .ad r [] 0) (hr : look (deE H env) r = .op cs) (hr2 : noRf (look env r) = true) (ha : xs.map (ov (look (deE H env))) = az) (hp : az.all isPlA = true)
    (hf : Ev P X (.fn fn (.op cs :: az) (.ow e sz n cs0) (.op cs' :: fin))) (hp0 : cs0.all isPl = true) (hfl : fin.length = az.length) (hne : nbE r 0 env = true) (hrd : Nat.beq r d = false) (hd : nrE d env = true) (hd2 : look env d = .dead) (hc : chkE [d] H env = true)
    (k : WD P X all ri l (look ((d, .im n cs0) :: (r, .op cs') :: env)) R) : WD P X all ri (i :: l) (look env) R := by
  have hne' : Nat.beq d r = false := by
    cases h : Nat.beq d r
    · rfl
    · rw [Nat.eq_of_beq_eq_true h] at hrd; simp at hrd
  refine WD.gen [(d, .im n cs0), (r, .op cs')] hi hq hT ht rfl ?_ ?_ ?_ ?_ ?_ ?_ hc (.cons _ (.cons _ (.nil _))) k
  · refine WO.callD hg hx hr ha hp hf hfl (nbE_deE env hne) (nrE_deE env hd) rfl ?_
    refine WO.hard (r := d) (p := []) (x := .ow e sz n cs0) (y := .im n cs0) (by simp only [getN, look, Nat.beq_refl, cond_true]) rfl (by simp only [setN, Eng.hard, hardL_pl hp0]) ?_
    rw [look_dup]
    exact WO.nil (WK.mk' (.cons _ (.cons _ (.nil _))))
  · simp
  · simp
  · simp only [Option.toList, List.all_cons, List.all_nil, hd, look, Nat.beq_refl, cond_true, okA, Bool.and_self]
  · exact ⟨hd2, trivial⟩
  · simp only [List.all_cons, List.all_nil, hr2, look, hne', cond_false, Nat.beq_refl, cond_true, noRf, Bool.and_self]
end
section
variable {P : Program} {X : FuncId → List AV → AV → List AV → Prop} {all : Array Oper} {R : (Nat → AV) → Prop}
variable {g : Option (Nat × Bool)} {env : Env} {d t i : Nat} {l : List Oper} {ty : TypeId} {pos : String} {af : Array Edge}
theorem WO.callDH {fn : FuncId} {x0 : Operand} {xs : List Operand} {ts : Array TypeId} {r e sz n : Nat} {cs cs' cs0 : List AV} {az fin : List AV} (hg : gg all (look env) g = some true) (hx : ov (look env) x0 = .ad r [] 0) (hr : look env r = .op cs) (ha : xs.map (ov (look env)) = az) (hp : az.all isPlA = true)
    (hf : Ev P X (.fn fn (.op cs :: az) (.ow e sz n cs0) (.op cs' :: fin))) (hp0 : cs0.all isPl = true) (hfl : fin.length = az.length) (hne : nbE r 0 env = true) (hd : nrE d env = true)
    (k : WO P X all l (look ((d, .im n cs0) :: (r, .op cs') :: env)) R) : WO P X all (⟨some d, .call { callee := .value (.func fn), args := (x0 :: xs).toArray, argTypes := ts }, ty, pos, af, g⟩ :: l) (look env) R := by
  refine WO.callD hg hx hr ha hp hf hfl hne hd rfl ?_
  refine WO.hard (r := d) (p := []) (x := .ow e sz n cs0) (y := .im n cs0) (by simp only [getN, look, Nat.beq_refl, cond_true]) rfl (by simp only [setN, Eng.hard, hardL_pl hp0]) ?_
  rw [look_dup]
  exact k
theorem TakeL.plsA {σ : Nat → AV} : ∀ {cs : List AV}, cs.all isPlA = true → TakeL σ cs cs σ
  | [], _ => .nil _
  | c :: cs, hp => by
    simp only [List.all_cons, Bool.and_eq_true] at hp
    cases c with
    | ag ds => exact .ag (TakeL.pls (by simpa only [isPlA] using hp.1)) (TakeL.plsA hp.2)
    | _ => exact .plain (by simpa only [isPlA] using hp.1) (TakeL.plsA hp.2)
/-- A slice of plain parts, structs among them, is built. -/
theorem WO.bsA {tx e sz by_ n : Nat} {z : Value} {zc us cs : List AV} {parts : Array (Nat × Operand)} [hT : SlT P tx e sz] [hZ : ZrT P e by_ z zc] (hg : gg all (look env) g = some true) (hu : (parts.toList.map fun x => ov (look env) x.2) = us) (hp : us.all isPlA = true) (hz : Nat.beq zc.length sz = true) (hl : Nat.ble (n * sz) 16777216 = true) (hf : fillA (fun i => some (i * sz, sz)) ((madeCells z.cells (n * sz)).toList.map c1) ((parts.toList.map (·.1)).zip us) = some cs) (hn : nrE d env = true)
    (k : WO P X all l (look ((d, .ow e sz n cs) :: env)) R) : WO P X all (⟨some d, .buildSlice tx n parts, ty, pos, af, g⟩ :: l) (look env) R := by
  refine WO.op (σ1 := put (look env) d (.ow e sz n cs)) (gg_goes hg) (.buildS (us := us) rfl rfl hT.ht hT.hs hZ.hz (zr_size hZ hz) hT.h0 (Nat.le_of_ble_eq_true hl) hZ.h1 (by rw [hu]; exact TakeL.plsA hp) hf) ?_
  rw [put_look hn rfl]; exact k
end
section
variable {P : Program} {X : FuncId → List AV → AV → List AV → Prop} {all : Array Oper} {R : (Nat → AV) → Prop} {ri : RI} {li : List Nat}
variable {g : Option (Nat × Bool)} {env : Env} {d t i : Nat} {l : List Oper} {ty : TypeId} {pos : String} {af : Array Edge}
/-- A call that answers a question: both ways. -/
theorem WO.callB {Q : Prop} {fn : FuncId} {xs : Array Operand} {ts : Array TypeId} {args fin : List AV} (hg : gg all (look env) g = some true) (ha : xs.toList.map (ov (look env)) = args) (hp : args.all isPlA = true) (hf : ∀ {r : Bool}, (r = true ↔ Q) → Ev P X (.fn fn args (.sc (.bool r)) fin)) (hn : nrE d env = true)
    (kt : Q → WO P X all l (look ((d, .sc (.bool true)) :: env)) R) (kf : ¬ Q → WO P X all l (look ((d, .sc (.bool false)) :: env)) R) : WO P X all (⟨some d, .call { callee := .value (.func fn), args := xs, argTypes := ts }, ty, pos, af, g⟩ :: l) (look env) R := by
  by_cases hq : Q
  · exact WO.call hg ha hp (hf (r := true) (by simp [hq])) hn rfl (kt hq)
  · exact WO.call hg ha hp (hf (r := false) (by simp [hq])) hn rfl (kf hq)
theorem WO.callFB {Q : Prop} {fn : FuncId} {xs : Array Operand} {ts : Array TypeId} {args fin : List AV} (hg : gg all (look env) g = some true) (ha : FrzL (look env) (xs.toList.map (ov (look env))) args) (hf : ∀ {r : Bool}, (r = true ↔ Q) → Ev P X (.fn fn args (.sc (.bool r)) fin)) (hn : nrE d env = true)
    (kt : Q → WO P X all l (look ((d, .sc (.bool true)) :: env)) R) (kf : ¬ Q → WO P X all l (look ((d, .sc (.bool false)) :: env)) R) : WO P X all (⟨some d, .call { callee := .value (.func fn), args := xs, argTypes := ts }, ty, pos, af, g⟩ :: l) (look env) R := by
  by_cases hq : Q
  · exact WO.callF hg ha (hf (r := true) (by simp [hq])) rfl hn rfl (kt hq)
  · exact WO.callF hg ha (hf (r := false) (by simp [hq])) rfl hn rfl (kf hq)
theorem WD.callB {Q : Prop} {HD H : List Nat} {gm : Bool} {fn : FuncId} {xs : Array Operand} {ts : Array TypeId} {args fin : List AV} (hi : all[i]? = some ⟨some d, .call { callee := .value (.func fn), args := xs, argTypes := ts }, ty, pos, af, g⟩) (hq : ri.quiet.contains i = true) (hq2 : gTn ri.gen i = none) (ht : ri.tab[i]? = some (HD, H, gm)) (hg : gg all (look (deE H env)) g = some true) (ha : xs.toList.map (ov (look (deE H env))) = args) (hp : args.all isPlA = true) (hf : ∀ {r : Bool}, (r = true ↔ Q) → Ev P X (.fn fn args (.sc (.bool r)) fin)) (h1 : look env d = .dead) (h2 : nrE d env = true)
    (kt : Q → WD P X all ri li (look ((d, .sc (.bool true)) :: env)) R) (kf : ¬ Q → WD P X all ri li (look ((d, .sc (.bool false)) :: env)) R) : WD P X all ri (i :: li) (look env) R := by
  by_cases hQ : Q
  · exact WD.q hi hq hq2 ht hg (QE.call ha hp (hf (r := true) (by simp [hQ]))) h1 h2 rfl (kt hQ)
  · exact WD.q hi hq hq2 ht hg (QE.call ha hp (hf (r := false) (by simp [hQ]))) h1 h2 rfl (kf hQ)
/-- A call that is ordered against all others, in a drawn region, is taken by WD.mut; a quiet one by this. -/
theorem WD.call {HD H : List Nat} {gm : Bool} {fn : FuncId} {xs : Array Operand} {ts : Array TypeId} {args fin : List AV} {res : AV} (hi : all[i]? = some ⟨some d, .call { callee := .value (.func fn), args := xs, argTypes := ts }, ty, pos, af, g⟩) (hq : ri.quiet.contains i = true) (hq2 : gTn ri.gen i = none) (ht : ri.tab[i]? = some (HD, H, gm)) (hg : gg all (look (deE H env)) g = some true) (ha : xs.toList.map (ov (look (deE H env))) = args) (hp : args.all isPlA = true) (hf : Ev P X (.fn fn args res fin)) (h1 : look env d = .dead) (h2 : nrE d env = true) (h3 : okA (badD d HD H gm []) res = true)
    (k : WD P X all ri li (look ((d, res) :: env)) R) : WD P X all ri (i :: li) (look env) R :=
  WD.q hi hq hq2 ht hg (QE.call ha hp hf) h1 h2 h3 k
theorem WD.cmp {o : BinOp} {x y : Operand} {tx ty2 : TypeId} {a b : Int} {p : Prop} [Decidable p] {HD H : List Nat} {gm : Bool} (hi : all[i]? = some ⟨some d, .binOp o tx x y ty2, ty, pos, af, g⟩) (hq : ri.quiet.contains i = true) (hq2 : gTn ri.gen i = none) (ht : ri.tab[i]? = some (HD, H, gm)) (hg : gg all (look (deE H env)) g = some true) (hx : ov (look (deE H env)) x = .sc (.int .i64 a)) (hy : ov (look (deE H env)) y = .sc (.int .i64 b)) (h : bin64 o a b = some (.bool (decide p))) (h1 : look env d = .dead) (h2 : nrE d env = true)
    (kt : p → WD P X all ri li (look ((d, .sc (.bool true)) :: env)) R) (kf : ¬ p → WD P X all ri li (look ((d, .sc (.bool false)) :: env)) R) : WD P X all ri (i :: li) (look env) R := by
  by_cases hp : p
  · exact WD.q hi hq hq2 ht hg (QE.cmpT hx hy h hp) h1 h2 rfl (kt hp)
  · exact WD.q hi hq hq2 ht hg (QE.cmpF hx hy h hp) h1 h2 rfl (kf hp)
/-- Truths are compared. -/
def binT (op : BinOp) (a b : Bool) : Option Bool :=
  match op with
  | .eql => some (a == b)
  | .neq => some (a != b)
  | _ => none
theorem qo_binT {σ : Nat → AV} {op : BinOp} {x y : Operand} {tx : TypeId} {a b c : Bool} (hu : P.underlying tx = some .bool) (hx : ov σ x = .sc (.bool a)) (hy : ov σ y = .sc (.bool b)) (h : binT op a b = some c) : QO P σ (.binOp op tx x y ty) (.sc (.bool c)) := by
  refine .pure _ (.bool c) fun ρ o w ho hρ => ?_
  have e1 := hρ x _ (by rw [hx]; rfl)
  have e2 := hρ y _ (by rw [hy]; rfl)
  have hg : (eqGuard op tx x y (.bool a) (.bool b)).run P w = .ok () w := by
    unfold eqGuard
    cases op <;> simp only [binT, reduceCtorEq] at h <;> rfl
  have h1 : (binOp op tx (.bool a) (.bool b)).run P w = .ok (.bool c) w := by
    cases op <;> simp only [binT, reduceCtorEq, Option.some.injEq] at h <;> subst h <;> simp [binOp, run_equal_bool w tx a b hu, bne]
  simp only [execOp, ho, e1, e2, Sem.run_bind, hg, Result.andThen_ok, h1, Sem.run_pure]
theorem QE.binT {op : BinOp} {x y : Operand} {tx ty2 : TypeId} {a b c : Bool} (hu : P.underlying tx = some .bool) (hx : ov (look env) x = .sc (.bool a)) (hy : ov (look env) y = .sc (.bool b)) (h : Eng.binT op a b = some c) : Ev P X (.qe ⟨some d, .binOp op tx x y ty2, ty, pos, af, g⟩ (look env) (.sc (.bool c))) := .qo (qo_binT hu hx hy h)
theorem WO.binT {op : BinOp} {x y : Operand} {tx ty2 : TypeId} {a b c : Bool} (hg : gg all (look env) g = some true) (hu : P.underlying tx = some .bool) (hx : ov (look env) x = .sc (.bool a)) (hy : ov (look env) y = .sc (.bool b)) (h : Eng.binT op a b = some c) (hn : nrE d env = true) (k : WO P X all l (look ((d, .sc (.bool c)) :: env)) R) : WO P X all (⟨some d, .binOp op tx x y ty2, ty, pos, af, g⟩ :: l) (look env) R := WO.q hg (QE.binT hu hx hy h) hn rfl k
/-- A variable of plain parts, only read. -/
theorem frzA {σ : Nat → AV} {r : Nat} {cs : List AV} (h : σ r = .op cs) (hp : cs.all isPl = true) : Frz σ (.ad r [] 0) (.ip cs) := by
  have := Frz.ad (σ := σ) r 0 [] cs (by simp [nodeCells, getN, h])
  rwa [List.drop_zero, hardL_pl hp] at this
end
end Go.Eng
/- The engine, part Yc: several results; a longer script. -/
namespace Go.Eng
open Go Go.RowKit
set_option linter.unusedVariables false
set_option linter.unusedSimpArgs false
theorem refL_plA {r : Nat} : ∀ {cs : List AV} {p : List Nat} {i : Nat}, cs.all isPlA = true → refL r p i cs = cs
  | [], p, i, h => rfl
  | c :: cs, p, i, h => by
    simp only [List.all_cons, Bool.and_eq_true] at h
    simp only [refL, refL_plA h.2]
    congr 1
    have h1 := h.1
    cases c
    case ag ds => simp only [isPlA] at h1; simp only [refT, refL_pl h1]
    all_goals exact refT_pl (by simpa only [isPlA] using h1)
section
variable {P : Program} {X : FuncId → List AV → AV → List AV → Prop} {env : Env} {g : Option (Nat × Bool)} {d t i : Nat} {ty : TypeId} {pos : String} {af : Array Edge} {op : Op}
theorem QE.mvTu {cs : List AV} (hop : MV op (.tmp t)) (ht : Nat.blt t HB = true) (hx : look env t = .tu cs) (hp : cs.all isPlA = true) : Ev P X (.qe ⟨some d, op, ty, pos, af, g⟩ (look env) (.tu cs)) :=
  .qo (by have := hop.qo (P := P) (env := env); rwa [show ov (look env) (.tmp t) = .tu cs by simp only [ov, ht, cond_true, hx, refT, refL_plA hp]] at this)
theorem QE.ext {cs : List AV} {c : AV} (ht : Nat.blt t HB = true) (hx : look env t = .tu cs) (hp : cs.all isPlA = true) (hc : cs[i]? = some c) : Ev P X (.qe ⟨some d, .extract (.tmp t) i, ty, pos, af, g⟩ (look env) c) :=
  .qo (.extract (.tmp t) i cs c (by simp only [ov, ht, cond_true, hx, refT, refL_plA hp]) hc)
/-- A struct at the head of what is only read. -/
theorem QE.ldIA' {x : Operand} {tx s : Nat} {cs rest : List AV} [hT : AgT P tx s] (hx : ov (look env) x = .ip (cs ++ rest)) (hl : cs.length = s) : Ev P X (.qe ⟨some d, .load tx x, ty, pos, af, g⟩ (look env) (.ag cs)) := QE.ldIA hx hl
end
section
variable {P : Program} {X : FuncId → List AV → AV → List AV → Prop} {env : Env} {t t2 n : Nat} {ex : Ex} {res : AV} {fin : List AV}
/-- Two plain values are handed back. -/
theorem retVV {v u : Value} (hx : ov (look env) (.tmp t) = .sc v) (hy : ov (look env) (.tmp t2) = .sc u) (hr : .tu [.sc v, .sc u] = res) (hf : fins n (look env) = fin) (hn : fin.all noRf = true) (he : ex = .normal ∨ ex = .ret := by simp) :
    (ex = .normal ∨ ex = .ret) ∧ ∃ as rs σ2, ResL P (look env) [.tmp t, .tmp t2] as ∧ TakeL (look env) as rs σ2 ∧ resOf rs = res ∧ fins n σ2 = fin ∧ fin.all noRf = true := by
  refine ⟨he, _, [.sc v, .sc u], look env, .tmp t (.tmp t2 .nil), ?_, hr, hf, hn⟩
  rw [hx, hy]; exact .plain rfl (.plain rfl (.nil _))
/-- A slice that is owned, and a plain value. -/
theorem retOVE {e sz m r : Nat} {cs : List AV} {u : Value} {G : AV → List AV → Prop} (hx : ov (look env) (.tmp t) = .vw r [] 0 m) (hr : look env r = .ow e sz m cs) (hl : cs.length = m * sz) (hy : ov (look env) (.tmp t2) = .sc u) (hf : fins n (look ((r, .dead) :: env)) = fin) (hn : fin.all noRf = true) (hG : G (.tu [.ow e sz m cs, .sc u]) fin) (he : ex = .normal ∨ ex = .ret := by simp) :
    (ex = .normal ∨ ex = .ret) ∧ ∃ as rs σ2, ResL P (look env) [.tmp t, .tmp t2] as ∧ TakeL (look env) as rs σ2 ∧ (fins n σ2).all noRf = true ∧ G (resOf rs) (fins n σ2) := by
  subst hf
  refine ⟨he, _, [.ow e sz m cs, .sc u], look ((r, .dead) :: env), .tmp t (.tmp t2 .nil), ?_, hn, hG⟩
  rw [hx, hy]
  exact tkV hr hl (.plain rfl (.nil _))
/-- Two plain values, told by a property. -/
theorem retPPE {a b : AV} {G : AV → List AV → Prop} (hx : ov (look env) (.tmp t) = a) (hy : ov (look env) (.tmp t2) = b) (ha : isPl a = true) (hb : isPl b = true) (hf : fins n (look env) = fin) (hn : fin.all noRf = true) (hG : G (.tu [a, b]) fin) (he : ex = .normal ∨ ex = .ret := by simp) :
    (ex = .normal ∨ ex = .ret) ∧ ∃ as rs σ2, ResL P (look env) [.tmp t, .tmp t2] as ∧ TakeL (look env) as rs σ2 ∧ (fins n σ2).all noRf = true ∧ G (resOf rs) (fins n σ2) := by
  subst hf
  refine ⟨he, _, [a, b], look env, .tmp t (.tmp t2 .nil), ?_, hn, hG⟩
  rw [hx, hy]; exact .plain ha (.plain hb (.nil _))
/-- A struct of plain parts, out of a variable, and a plain value. -/
theorem retCVE {ty s : Nat} {cs : List AV} {u : Value} {G : AV → List AV → Prop} [hT : AgT P ty s] (ht : Nat.blt t HB = true) (hx : look env t = .op cs) (hl : Nat.beq cs.length s = true) (hp : cs.all isPl = true) (hy : ov (look env) (.tmp t2) = .sc u) (hf : fins n (look env) = fin) (hn : fin.all noRf = true) (hG : G (.tu [.ag cs, .sc u]) fin) (he : ex = .normal ∨ ex = .ret := by simp) :
    (ex = .normal ∨ ex = .ret) ∧ ∃ as rs σ2, ResL P (look env) [.cell t ty, .tmp t2] as ∧ TakeL (look env) as rs σ2 ∧ (fins n σ2).all noRf = true ∧ G (resOf rs) (fins n σ2) := by
  subst hf
  have hl := Nat.eq_of_beq_eq_true hl
  refine ⟨he, _, [.ag cs, .sc u], look env, .cell t ty (.many cs s hT.ht hT.hs hl hT.h0 fun k hk => ?_) (.tmp t2 .nil), ?_, hn, hG⟩
  · have hk' : k < cs.length := by omega
    simp only [ov, ht, cond_true, hx, refT, cell, nodeCells, getN, Option.bind_some, Nat.zero_add]
    rw [List.getElem?_eq_getElem hk', Option.map_some, refT_pl (List.all_eq_true.1 hp _ (List.getElem_mem _))]
  · rw [hy]; exact .ag (TakeL.pls hp) (.plain rfl (.nil _))
end
/-- The same with more rules: several results, new variables, structs read and stored. -/
theorem go2 {p q : Prop} (k : q) (h : Hide q → p := by
    intro k
    repeat (first
      | (apply WO.q2
         exact rfl
         (first
          | exact QE.mvSc (.move _) rfl
          | exact QE.ldO rfl rfl rfl rfl
          | exact QE.flO rfl rfl
          | exact QE.mvSc (.assign _) rfl
          | exact QE.ldI rfl rfl
          | exact QE.flI rfl
          | exact QE.mvAd (.move _) rfl
          | exact QE.mvIm (.move _) rfl
          | exact QE.len rfl
          | exact QE.cmpT rfl rfl rfl (by first | assumption | omega)
          | exact QE.cmpF rfl rfl rfl (by omega)
          | exact QE.add rfl rfl (by omega) (by omega)
          | exact QE.ldA0 rfl rfl rfl rfl
          | exact QE.ldAI rfl rfl
          | exact QE.sub rfl rfl (by omega) (by omega)
          | exact QE.nilO rfl rfl
          | exact QE.nilI rfl
          | exact QE.mvIp (.move _) rfl
          | exact QE.mvVw (.move _) rfl
          | exact QE.lenO rfl rfl
          | exact QE.not rfl
          | exact QE.pickT rfl rfl
          | exact QE.pickF rfl rfl
          | exact QE.mvNl (.move _) rfl
          | exact QE.mvAg (.move _) rfl rfl rfl
          | exact QE.mvIm (.assign _) rfl
          | exact QE.mvNl (.assign _) rfl
          | exact QE.mvIp (.assign _) rfl
          | exact QE.mvAg (.assign _) rfl rfl rfl
          | exact QE.len0 rfl
          | exact QE.mvTu (.move _) rfl rfl rfl
          | exact QE.mvTu (.assign _) rfl rfl rfl
          | exact QE.ext rfl rfl rfl rfl
          | exact QE.ldIA' rfl rfl)
         refine ⟨rfl, rfl, ?_⟩)
      | refine WO.nil ?_
      | refine WC.seq ?_
      | refine WC.region ?_
      | refine seqK.normal ?_
      | refine seqK.ret ?_
      | refine seqK.exit ?_
      | refine blkK.normal ?_
      | refine blkK.here ?_
      | refine blkK.exit rfl ?_
      | refine blkK.ret ?_
      | refine WC.block ?_
      | refine WC.skip ?_
      | refine WC.ret ?_
      | refine WC.exit ?_
      | refine lpK.exit ?_
      | refine lpK.ret ?_
      | refine WC.condT rfl ?_
      | refine WC.condF rfl ?_
      | refine WO.skip rfl rfl ?_
      | refine WO.takeOw rfl (.assign _) rfl rfl (by first | exact encL_length _ | rfl | (rw [encL_length]; simp) | simp) rfl ?_
      | refine WO.takeOp rfl (.assign _) rfl rfl rfl ?_
      | (apply WO.q2
         exact rfl
         (first | exact QE.mvAd (.assign _) rfl | exact QE.mvVw (.assign _) rfl)
         refine ⟨rfl, rfl, ?_⟩)
      | refine WO.alloc rfl rfl ?_
      | refine WO.stA rfl rfl rfl rfl rfl rfl rfl rfl rfl ?_
      | refine WO.boxA rfl rfl rfl rfl rfl ?_
      | refine WO.build0 rfl rfl rfl ?_
      | refine WDK.mk ?_
      | exact WK.mk' (by first | exact .cons _ (.nil _) | exact .cons _ (.cons _ (.nil _)) | exact .cons _ (.cons _ (.cons _ (.nil _))))
      | refine WD.nil ?_
      | (apply WD.q2
         exact rfl
         exact rfl
         exact rfl
         exact rfl
         exact rfl
         (first
          | exact QE.mvSc (.move _) rfl
          | exact QE.ldO rfl rfl rfl rfl
          | exact QE.flO rfl rfl
          | exact QE.ldI rfl rfl
          | exact QE.flI rfl
          | exact QE.mvAd (.move _) rfl
          | exact QE.mvIm (.move _) rfl
          | exact QE.len rfl
          | exact QE.cmpT rfl rfl rfl (by first | assumption | omega)
          | exact QE.cmpF rfl rfl rfl (by omega)
          | exact QE.add rfl rfl (by omega) (by omega)
          | exact QE.ldA0 rfl rfl rfl rfl
          | exact QE.ldAI rfl rfl
          | exact QE.sub rfl rfl (by omega) (by omega)
          | exact QE.nilO rfl rfl
          | exact QE.nilI rfl
          | exact QE.mvIp (.move _) rfl
          | exact QE.mvVw (.move _) rfl
          | exact QE.lenO rfl rfl
          | exact QE.not rfl
          | exact QE.pickT rfl rfl
          | exact QE.pickF rfl rfl
          | exact QE.mvNl (.move _) rfl
          | exact QE.mvAg (.move _) rfl rfl rfl
          | exact QE.len0 rfl
          | exact QE.mvTu (.move _) rfl rfl rfl
          | exact QE.ext rfl rfl rfl rfl
          | exact QE.ldIA' rfl rfl)
         refine ⟨rfl, rfl, rfl, ?_⟩)
      | refine WD.skip rfl rfl rfl rfl rfl rfl rfl ?_
      | refine WD.mut rfl rfl rfl ?_)
    exact k.out) : p := h ⟨k⟩
end Go.Eng
/- The engine, part Yd: the least and the greatest of two numbers. -/
namespace Go.Eng
open Go Go.RowKit
set_option linter.unusedVariables false
set_option linter.unusedSimpArgs false
section
variable {P : Program} {X : FuncId → List AV → AV → List AV → Prop} {all : Array Oper} {R : (Nat → AV) → Prop}
variable {g : Option (Nat × Bool)} {env : Env} {d t i : Nat} {l : List Oper} {ty : TypeId} {pos : String} {af : Array Edge}
theorem qo_min {σ : Nat → AV} {x y : Operand} {ts : Array TypeId} {a b : Int} (hx : ov σ x = .sc (.int .i64 a)) (hy : ov σ y = .sc (.int .i64 b)) : QO P σ (.call { callee := .builtin .min, args := #[x, y], argTypes := ts }) (.sc (.int .i64 (min a b))) := by
  refine .pure _ (.int .i64 (min a b)) fun ρ o w ho hρ => ?_
  have e1 := hρ x _ (by rw [hx]; rfl)
  have e2 := hρ y _ (by rw [hy]; rfl)
  have e : (if b < a then b else a) = min a b := by split <;> omega
  simp [execOp, ho, e1, e2, resolve, invoke, builtin, Builtin.min_, Builtin.min2, e]
theorem qo_max {σ : Nat → AV} {x y : Operand} {ts : Array TypeId} {a b : Int} (hx : ov σ x = .sc (.int .i64 a)) (hy : ov σ y = .sc (.int .i64 b)) : QO P σ (.call { callee := .builtin .max, args := #[x, y], argTypes := ts }) (.sc (.int .i64 (max a b))) := by
  refine .pure _ (.int .i64 (max a b)) fun ρ o w ho hρ => ?_
  have e1 := hρ x _ (by rw [hx]; rfl)
  have e2 := hρ y _ (by rw [hy]; rfl)
  have e : (if a < b then b else a) = max a b := by split <;> omega
  simp [execOp, ho, e1, e2, resolve, invoke, builtin, Builtin.max_, Builtin.max2, e]
theorem QE.min {x y : Operand} {ts : Array TypeId} {a b : Int} (hx : ov (look env) x = .sc (.int .i64 a)) (hy : ov (look env) y = .sc (.int .i64 b)) : Ev P X (.qe ⟨some d, .call { callee := .builtin .min, args := #[x, y], argTypes := ts }, ty, pos, af, g⟩ (look env) (.sc (.int .i64 (Min.min a b)))) := .qo (qo_min hx hy)
theorem QE.max {x y : Operand} {ts : Array TypeId} {a b : Int} (hx : ov (look env) x = .sc (.int .i64 a)) (hy : ov (look env) y = .sc (.int .i64 b)) : Ev P X (.qe ⟨some d, .call { callee := .builtin .max, args := #[x, y], argTypes := ts }, ty, pos, af, g⟩ (look env) (.sc (.int .i64 (Max.max a b)))) := .qo (qo_max hx hy)
end
end Go.Eng
/- The engine, part Ye: the numbers' own unary operations. -/
namespace Go.Eng
open Go Go.RowKit
set_option linter.unusedVariables false
set_option linter.unusedSimpArgs false
section
variable {P : Program} {X : FuncId → List AV → AV → List AV → Prop} {all : Array Oper} {R : (Nat → AV) → Prop}
variable {g : Option (Nat × Bool)} {env : Env} {d t i : Nat} {l : List Oper} {ty : TypeId} {pos : String} {af : Array Edge}
theorem qo_neg {σ : Nat → AV} {x : Operand} {tx : TypeId} {k : IntKind} {a c : Int} (hx : ov σ x = .sc (.int k a)) (hc : k.wrap (0 - a) = c) : QO P σ (.unOp .neg tx x) (.sc (.int k c)) := by
  refine .pure _ (.int k c) fun ρ o w ho hρ => ?_
  have e1 := hρ x _ (by rw [hx]; rfl)
  simp only [Int.zero_sub] at hc
  simp [execOp, ho, e1, Op.unary, Op.intArith, hc]
theorem qo_cpl {σ : Nat → AV} {x : Operand} {tx : TypeId} {a c : Int} (hx : ov σ x = .sc (.int .i64 a)) (hc : IntKind.i64.wrap (BitVec.ofInt IntKind.i64.bits (-1) ^^^ BitVec.ofInt IntKind.i64.bits a).toNat = c) : QO P σ (.unOp .xor tx x) (.sc (.int .i64 c)) := by
  refine .pure _ (.int .i64 c) fun ρ o w ho hρ => ?_
  have e1 := hρ x _ (by rw [hx]; rfl)
  simp only [execOp, ho, e1, Op.unary]
  rw [← hc]; rfl
theorem QE.neg {x : Operand} {tx : TypeId} {k : IntKind} {a c : Int} (hx : ov (look env) x = .sc (.int k a)) (hc : k.wrap (0 - a) = c) : Ev P X (.qe ⟨some d, .unOp .neg tx x, ty, pos, af, g⟩ (look env) (.sc (.int k c))) := .qo (qo_neg hx hc)
theorem QE.cpl {x : Operand} {tx : TypeId} {a c : Int} (hx : ov (look env) x = .sc (.int .i64 a)) (hc : IntKind.i64.wrap (BitVec.ofInt IntKind.i64.bits (-1) ^^^ BitVec.ofInt IntKind.i64.bits a).toNat = c) : Ev P X (.qe ⟨some d, .unOp .xor tx x, ty, pos, af, g⟩ (look env) (.sc (.int .i64 c))) := .qo (qo_cpl hx hc)
end
end Go.Eng
/- The engine, part Yf: what stands at the end of an own slice; an append behind its beginning. -/
namespace Go.Eng
open Go Go.RowKit
set_option linter.unusedVariables false
set_option linter.unusedSimpArgs false
section
variable {P : Program} {X : FuncId → List AV → AV → List AV → Prop} {all : Array Oper} {R : (Nat → AV) → Prop}
variable {g : Option (Nat × Bool)} {env : Env} {d t i : Nat} {l : List Oper} {ty : TypeId} {pos : String} {af : Array Edge}
theorem tkT {r n m e sz : Nat} {cs az ts : List AV} {σ' : Nat → AV} (hr : look env r = .ow e sz m cs) (hm : n ≤ m) (k : TakeL (look ((r, .dead) :: env)) az ts σ') : TakeL (look env) (.vw r [] 0 n :: az) (.ow e sz n (cs.take (n * sz)) :: ts) σ' := by
  have e1 : setS (look env) r [] .dead = look ((r, .dead) :: env) := by rw [← look_upd]; rfl
  exact TakeL.vw (σ := look env) (σ' := σ') (r := r) (n := n) (p := []) (e := e) (sz := sz) (m := m) (cs := cs) (by simp [getN, hr]) hm (by rw [e1]; exact k)
/-- An append behind the beginning of what a register owns. -/
theorem WO.apTI {s x : Operand} {tx e by_ n m k r : Nat} {z : Value} {xs : List Int} {L zc : List AV} [hT : SlT P tx e 1] [hZ : ZrT P e by_ z zc] (hg : gg all (look env) g = some true) (hs : ov (look env) s = .vw r [] 0 n) (hr : look env r = .ow e 1 m (encL eI xs)) (hm : n ≤ m) (hx : ov (look env) x = .im k L) (hL : L.length = k * 1) (hz : Nat.beq zc.length 1 = true) (h63 : n + k ≤ maxLen) (hby : (n + k) * by_ ≤ 140737488355328) (hn : nrE d env = true)
    (hk : WO P X all l (look ((d, .ow e 1 (n + k) (encL eI (xs.take n) ++ L)) :: (r, .dead) :: env)) R) : WO P X all (⟨some d, .call { callee := .builtin .append, args := #[s, x], argTypes := #[tx, tx] }, ty, pos, af, g⟩ :: l) (look env) R := by
  have ht : (encL eI xs).take (n * 1) = encL eI (xs.take n) := encL_take (f := eI) (sz := 1) ..
  refine WO.op (σ1 := put (look ((r, .dead) :: env)) d (.ow e 1 (n + k) (encL eI (xs.take n) ++ L))) (gg_goes hg) (.appendC (z := z) rfl rfl hT.ht hT.hs hZ.hb hZ.hz (zr_size hZ hz) hT.h0 (by rw [hs]; exact tkT hr hm (.nil _)) (by rw [ht]; exact .ow n _) (by rw [hx]; exact .im k L) hL h63 hby) ?_
  rw [put_look (by simp only [nrE, nrA, hn, Bool.and_self]) rfl]
  exact hk
theorem QE.slT {x y : Operand} {tx e e' m b n r : Nat} {cs : List AV} [hT : SlT P tx e 1] (hx : ov (look env) x = .vw r [] 0 n) (hr : look env r = .ow e' 1 m cs) (hl : n ≤ cs.length) (hy : ov (look env) y = .sc (.int .i64 (b : Int))) (h1 : b ≤ n) : Ev P X (.qe ⟨some d, .slice tx x (some y) none none, ty, pos, af, g⟩ (look env) (.vw r [] b (n - b))) := by
  have := QO.sliceV (P := P) (σ := look env) tx x (some y) none e 1 b n r 0 n m e' 1 [] cs hT.ht hT.hs hT.h0 hx (by simp [getN, hr]) (by simp only [bnd, hy]) (by simp only [bnd]) (by omega) (by omega) (by omega)
  have e1 : 0 + (b : Int).toNat * 1 = b := by omega
  have e2 : (n : Int).toNat - (b : Int).toNat = n - b := by omega
  rw [e1, e2] at this
  exact .qo this
theorem QE.slH {x y : Operand} {tx e e' m b n r : Nat} {cs : List AV} [hT : SlT P tx e 1] (hx : ov (look env) x = .vw r [] 0 n) (hr : look env r = .ow e' 1 m cs) (hl : n ≤ cs.length) (hy : ov (look env) y = .sc (.int .i64 (b : Int))) (h1 : b ≤ n) : Ev P X (.qe ⟨some d, .slice tx x none (some y) none, ty, pos, af, g⟩ (look env) (.vw r [] 0 b)) := by
  have := QO.sliceV (P := P) (σ := look env) tx x none (some y) e 1 0 b r 0 n m e' 1 [] cs hT.ht hT.hs hT.h0 hx (by simp [getN, hr]) rfl (by simp only [bnd, hy]) (by omega) (by omega) (by omega)
  have e1 : 0 + Int.toNat 0 * 1 = 0 := rfl
  have e2 : (b : Int).toNat - Int.toNat 0 = b := by simp
  rw [e1, e2] at this
  exact .qo this
theorem QE.ixT {x ix : Operand} {tx e e' m b n r : Nat} {k0 : IntKind} {cs : List AV} [hT : SlT P tx e 1] (j : Nat) (hx : ov (look env) x = .vw r [] b n) (hr : look env r = .ow e' 1 m cs) (hl : b + n ≤ cs.length) (hi : ov (look env) ix = .sc (.int k0 (j : Int))) (h1 : j < n) : Ev P X (.qe ⟨some d, .indexAddr tx x ix, ty, pos, af, g⟩ (look env) (.ad r [] (b + j))) := by
  have := QE.ixO (P := P) (X := X) (env := env) (d := d) (g := g) (ty := ty) (pos := pos) (af := af) (tx := tx) (x := x) (ix := ix) (p := []) (e' := e') (sz' := 1) (m := m) (cs := cs) hx (by simp only [getN, hr]) (by omega) hi (by omega) (by omega)
  have e1 : b + (j : Int).toNat * 1 = b + j := by omega
  rwa [e1] at this
theorem QE.ldT {x : Operand} {tx e m a r : Nat} {xs : List Int} [hT : OnT P tx] (hx : ov (look env) x = .ad r [] a) (hr : look env r = .ow e 1 m (encL eI xs)) (ha : a < xs.length) : Ev P X (.qe ⟨some d, .load tx x, ty, pos, af, g⟩ (look env) (.sc (.int .i64 (xs.getD a 0)))) := by
  refine QE.ldO hx (p := []) (cs := encL eI xs) (by simp [nodeCells, getN, hr]) ?_ rfl
  have := encL_get (f := eI) (sz := 1) ha (j := 0) (by decide) 0
  rw [show a * 1 + 0 = a by omega] at this
  rw [this]; rfl
end
end Go.Eng
/- The engine, part Yg: own slices in the cells of a variable: stored there, taken from there by an append. -/
namespace Go.Eng
open Go Go.RowKit
set_option linter.unusedVariables false
set_option linter.unusedSimpArgs false
section
variable {P : Program} {X : FuncId → List AV → AV → List AV → Prop} {all : Array Oper} {R : (Nat → AV) → Prop}
variable {g : Option (Nat × Bool)} {env : Env} {d t i : Nat} {l : List Oper} {ty : TypeId} {pos : String} {af : Array Edge}
theorem WO.stOp {x : Operand} {tx r a m e2 s2 : Nat} {cs cs' cs2 : List AV} [hT : OnT P tx] (hg : gg all (look env) g = some true) (hx : ov (look env) x = .ad r [] a) (ht : Nat.blt t HB = true) (hy : look env t = .ow e2 s2 m cs2) (hl : cs2.length = m * s2) (hr : look env r = .op cs) (hi : Nat.blt a cs.length = true) (htr : Nat.beq t r = false) (hne : nbE r 0 env = true) (hc : cs.set a (.ow e2 s2 m cs2) = cs')
    (k : WO P X all l (look ((r, .op cs') :: (t, .dead) :: env)) R) : WO P X all (⟨none, .store tx x (.tmp t), ty, pos, af, g⟩ :: l) (look env) R := by
  have hi := Nat.le_of_ble_eq_true hi
  have hr2 : look ((t, .dead) :: env) r = .op cs := by simp only [look, htr, cond_false]; exact hr
  have hne2 : nbE r 0 ((t, .dead) :: env) = true := by simp only [nbE, nbA, hne, Bool.and_self]
  obtain ⟨e', h1, h2⟩ := StoreL.root (r := r) [.ow e2 s2 m cs2] (e := (t, .dead) :: env) (i := a) hne2 hr2 (.inr rfl) (by simp; omega)
  refine WO.op (σ1 := putD (look e') none .dead) (gg_goes hg) (.store (σ1 := look ((t, .dead) :: env)) (vs := [.ow e2 s2 m cs2]) (tr := .ow e2 s2 m cs2) rfl hx ?_ (hx_tk ht hy hl) rfl hT.hs h1) ?_
  · simp only [nodeCells, getN, hr2]; rfl
  · show WO P X all l (look e') R
    rw [h2]; subst hc; exact k
/-- An append behind what stands in a variable's cell. -/
theorem WO.apP {s x : Operand} {tx e sz by_ n m r j : Nat} {z : Value} {cs cs' ds L zc : List AV} [hT : SlT P tx e sz] [hZ : ZrT P e by_ z zc] (hg : gg all (look env) g = some true) (hs : ov (look env) s = .vw r [j] 0 n) (hr : look env r = .op ds) (hj : ds[j]? = some (.ow e sz n cs)) (hl : cs.length = n * sz) (hx : ov (look env) x = .im m L) (hL : L.length = m * sz) (hz : Nat.beq zc.length sz = true) (h63 : n + m ≤ maxLen) (hby : (n + m) * by_ ≤ 140737488355328) (hn : nrE d env = true) (hd : ds.set j .dead = cs') (hnr : nrL d cs' = true)
    (k : WO P X all l (look ((d, .ow e sz (n + m) (cs ++ L)) :: (r, .op cs') :: env)) R) : WO P X all (⟨some d, .call { callee := .builtin .append, args := #[s, x], argTypes := #[tx, tx] }, ty, pos, af, g⟩ :: l) (look env) R := by
  have e1 : setS (look env) r [j] .dead = look ((r, .op cs') :: env) := by
    rw [← look_upd]; simp only [setS, hr, setN, kids, hj, withKids, hd]
  have h1 : TakeL (look env) [.vw r [j] 0 n] [.ow e sz n cs] (look ((r, .op cs') :: env)) := by
    have := TakeL.vw (σ := look env) (σ' := look ((r, .op cs') :: env)) (r := r) (n := n) (p := [j]) (e := e) (sz := sz) (m := n) (cs := cs) (as := []) (ts := []) (by simp [getN, hr, kids, hj]) (Nat.le_refl _) (by rw [e1]; exact .nil _)
    rwa [List.take_of_length_le (by omega)] at this
  refine WO.op (σ1 := put (look ((r, .op cs') :: env)) d (.ow e sz (n + m) (cs ++ L))) (gg_goes hg) (.appendC (z := z) rfl rfl hT.ht hT.hs hZ.hb hZ.hz (zr_size hZ hz) hT.h0 (by rw [hs]; exact h1) (.ow n cs) (by rw [hx]; exact .im m L) hL h63 hby) ?_
  rw [put_look (by simp only [nrE, nrA, hn, hnr, Bool.and_self]) rfl]
  exact k
/-- A register is told once more. -/
theorem WO.re {r : Nat} {w : AV} (hx : look env r = w) (k : WO P X all l (look ((r, w) :: env)) R) : WO P X all l (look env) R := by
  have : look ((r, w) :: env) = look env := by
    rw [← look_upd]; funext t
    by_cases h : t = r
    · subst h; rw [upd_same]; exact hx.symm
    · rw [upd_ne _ _ _ h]
  rwa [this] at k
/-- A slice that stands in a variable's cell is looked at. -/
theorem QE.ldOw {x : Operand} {tx r i e sz n : Nat} {cs ds : List AV} [hT : OnT P tx] (hx : ov (look env) x = .ad r [] i) (hr : look env r = .op ds) (hc : ds[i]? = some (.ow e sz n cs)) : Ev P X (.qe ⟨some d, .load tx x, ty, pos, af, g⟩ (look env) (.vw r [i] 0 n)) :=
  .qo (.load tx x (.vw r [i] 0 n) (.one _ hT.ht (by rw [hx]; simp only [cell, nodeCells, getN, hr, Option.bind_some, Nat.add_zero, hc, Option.map_some]; rfl)))
variable {Q : Ex → (Nat → AV) → Prop}
theorem WC.castAt {c : Code} {r : Nat} {p : List Nat} {y : AV} (e sz : Nat) (h0 : 0 < sz) (hn : getN p (look env r) = some .nl) (hy : setN p (look env r) (.ow e sz 0 []) = y) (k : WC P X c (look ((r, y) :: env)) Q) : WC P X c (look env) Q := by
  subst hy
  obtain ⟨ex, σ2, h1, h2⟩ := k
  exact ⟨ex, σ2, .cast (r := r) (p := p) hn (.ow e sz h0) (by rw [setS_look]; exact h1), h2⟩
/-- A struct of plain parts, out of a variable; told by a property. -/
theorem retGE {env : Env} {t n ty s : Nat} {cs : List AV} {fin : List AV} {ex : Ex} {G : AV → List AV → Prop} [hT : AgT P ty s] (ht : Nat.blt t HB = true) (hx : look env t = .op cs) (hl : Nat.beq cs.length s = true) (hp : cs.all isPl = true) (hf : fins n (look env) = fin) (hn : fin.all noRf = true) (hG : G (.ag cs) fin) (he : ex = .normal ∨ ex = .ret := by simp) :
    (ex = .normal ∨ ex = .ret) ∧ ∃ az rs σ2, ResL P (look env) [.cell t ty] az ∧ TakeL (look env) az rs σ2 ∧ (fins n σ2).all noRf = true ∧ G (resOf rs) (fins n σ2) := by
  obtain ⟨h1, az, rs, σ2, h2, h3, h4, h5, h6⟩ := retC (P := P) (ty := ty) (s := s) (t := t) (env := env) (n := n) (fin := fin) (res := .ag cs) ht hx (Nat.eq_of_beq_eq_true hl) hp rfl hf hn he
  exact ⟨h1, az, rs, σ2, h2, h3, by rw [h5]; exact h6, by rw [h4, h5]; exact hG⟩
end
end Go.Eng
/- The engine, part Yh: a call whose arguments are only read by it, as a quiet step. -/
namespace Go.Eng
open Go Go.RowKit
set_option linter.unusedVariables false
section
variable {P : Program} {X : FuncId → List AV → AV → List AV → Prop}
variable {g : Option (Nat × Bool)} {env : Env} {d : Nat} {ty : TypeId} {pos : String} {af : Array Edge}
theorem QE.callF {fn : FuncId} {xs : Array Operand} {ts : Array TypeId} {args fin : List AV} {res : AV} (ha : FrzL (look env) (xs.toList.map (ov (look env))) args) (hf : Ev P X (.fn fn args res fin)) (hi : noIm res = true) : Ev P X (.qe ⟨some d, .call { callee := .value (.func fn), args := xs, argTypes := ts }, ty, pos, af, g⟩ (look env) res) :=
  .qcall rfl ha hf (.inl hi)
end
end Go.Eng
/- The engine, part Yi: quotients, rests, products; structs of own slices that go home; a longer script. -/
namespace Go.Eng
open Go Go.RowKit
set_option linter.unusedVariables false
set_option linter.unusedSimpArgs false
section
variable {P : Program} {X : FuncId → List AV → AV → List AV → Prop} {env : Env} {g : Option (Nat × Bool)} {d t i : Nat} {ty : TypeId} {pos : String} {af : Array Edge} {op : Op}
theorem QE.rem {x y : Operand} {tx ty2 : TypeId} {a b : Int} (hx : ov (look env) x = .sc (.int .i64 a)) (hy : ov (look env) y = .sc (.int .i64 b)) (h0 : 0 ≤ a) (h1 : 0 < b) : Ev P X (.qe ⟨some d, .binOp .rem tx x y ty2, ty, pos, af, g⟩ (look env) (.sc (.int .i64 (a % b)))) :=
  QE.binG hx hy (by simp only [Eng.binG]; rw [if_neg (by omega), Int.tmod_eq_emod_of_nonneg h0]) rfl
theorem QE.quo {x y : Operand} {tx ty2 : TypeId} {a b : Int} (hx : ov (look env) x = .sc (.int .i64 a)) (hy : ov (look env) y = .sc (.int .i64 b)) (h0 : 0 ≤ a) (h1 : 0 < b) (h2 : a ≤ 9223372036854775807) : Ev P X (.qe ⟨some d, .binOp .quo tx x y ty2, ty, pos, af, g⟩ (look env) (.sc (.int .i64 (a / b)))) := by
  refine QE.binG hx hy ?_ rfl
  simp only [Eng.binG]
  rw [if_neg (by omega), Int.tdiv_eq_ediv_of_nonneg h0]
  have h3 : 0 ≤ a / b := Int.ediv_nonneg h0 (by omega)
  have h4 : a / b ≤ a := Int.ediv_le_self _ h0
  have : IntKind.i64.wrap (a / b) = wrap64 (a / b) := by rw [Go.IntWalk.i64_left]
  rw [this, w64 (by omega) (by omega)]
theorem QE.slI {α : Type} {f : α → List AV} {x : Operand} {tx e sz : Nat} {lo hi : Option Operand} {i j : Int} {xs : List α} [hT : SlT P tx e sz] [hW : Wid f sz] (hx : ov (look env) x = .im xs.length (encL f xs)) (hl : bnd (look env) 0 lo = some i) (hh : bnd (look env) xs.length hi = some j) (h0 : 0 ≤ i) (h1 : i ≤ j) (h2 : j ≤ (xs.length : Int)) :
    Ev P X (.qe ⟨some d, .slice tx x lo hi none, ty, pos, af, g⟩ (look env) (.im ((xs.drop i.toNat).take (j.toNat - i.toNat)).length (encL f ((xs.drop i.toNat).take (j.toNat - i.toNat))))) := by
  have := QO.sliceI (P := P) (σ := look env) tx x lo hi e sz i j xs.length (encL f xs) hT.ht hT.hs hT.h0 hx hl hh h0 h1 h2
  rw [encL_drop (sz := sz), encL_take (sz := sz)] at this
  refine .qo ?_
  have e1 : (List.take (j.toNat - i.toNat) (List.drop i.toNat xs)).length = j.toNat - i.toNat := by simp; omega
  rw [e1]
  exact this
theorem QE.mul {x y : Operand} {tx ty2 : TypeId} {a b : Int} (hx : ov (look env) x = .sc (.int .i64 a)) (hy : ov (look env) y = .sc (.int .i64 b)) (h0 : -9223372036854775808 ≤ a * b) (h1 : a * b ≤ 9223372036854775807) : Ev P X (.qe ⟨some d, .binOp .mul tx x y ty2, ty, pos, af, g⟩ (look env) (.sc (.int .i64 (a * b)))) :=
  QE.bin (v := .int .i64 (a * b)) hx hy (by simp only [bin64, w64 h0 h1]) rfl
end
section
variable {P : Program} {X : FuncId → List AV → AV → List AV → Prop} {all : Array Oper} {R : (Nat → AV) → Prop} {env : Env} {g : Option (Nat × Bool)} {d t : Nat} {l : List Oper} {ty : TypeId} {pos : String} {af : Array Edge}
theorem nbE_upd {r : Nat} {e : Env} {x : AV} : upd (look e) r x = look ((r, x) :: e) := look_upd ..
/-- A struct with own slices that came in (root r) is laid into a variable; the root refers to it. -/
theorem WO.boxH {e r : Nat} {as bs hs bs1 cs : List AV} {env1 : Env} (hg : gg all (look env) g = some true) (hr : Nat.ble HB r = true) (ha : ov (look env) (.tmp t) = .ag as) (hb : look env r = .ag bs) (hh : HomeL r d 0 as bs hs) (hT : TakeL (look env) [.ag as] [.ag cs] (look env1)) (h1 : look env1 r = .ag bs1) (hl : Nat.beq bs1.length bs.length = true) (hc : Nat.beq cs.length bs.length = true) (hn : nrE d env1 = true) (k : WO P X all l (look ((r, .ag hs) :: (d, .op cs) :: env1)) R) : WO P X all (⟨some d, .box e (.tmp t), ty, pos, af, g⟩ :: l) (look env) R := by
  refine WO.op (σ1 := upd (put (look env1) d (.op cs)) r (.ag hs)) (gg_goes hg) (.boxH rfl rfl (Nat.le_of_ble_eq_true hr) ha hb hh hT h1 (Nat.eq_of_beq_eq_true hl) (Nat.eq_of_beq_eq_true hc)) ?_
  rw [put_look hn rfl, nbE_upd]
  exact k
end
/-- A function at whose end what came in goes home. -/
theorem Ev.fnT' {P : Program} {X : FuncId → List AV → AV → List AV → Prop} {f : FuncId} {F : Func} {c : Code} {args fin : List AV} {res : AV} {env : Env} (hF : P.funcs[f]? = some F) (hc : F.body = some c) (hnm : (F.name == "runtime.NumGoroutine") = false) (hN : Nat.ble F.ntmps HB = true) (hA : Nat.ble args.length F.ntmps = true) (hK : codeOk F.ntmps c = true) (he : Keep (enter args) env)
    (h : WC P X c (look env) fun ex σ1 => (ex = .normal ∨ ex = .ret) ∧ ∃ as rs σ2, ResL P σ1 F.results.toList as ∧ rs.length = as.length ∧ TakeL σ1 (as ++ finR args.length σ1) (rs ++ fin) σ2 ∧ resOf rs = res) : Ev P X (.fn f args res fin) := by
  obtain ⟨ex, σ1, h1, hx, as, rs, σ2, h2, hl, h3, rfl⟩ := h
  exact .fnT hF hc hnm (Nat.le_of_ble_eq_true hN) (Nat.le_of_ble_eq_true hA) hK (.drop he.drop h1) hx h2 hl h3
theorem retT {P : Program} {env : Env} {t n : Nat} {ex : Ex} {res : AV} {fin : List AV} {v : Value} {env2 : Env} (hx : ov (look env) (.tmp t) = .sc v) (hr : .sc v = res) (hT : TakeL (look env) (finR n (look env)) fin (look env2)) (he : ex = .normal ∨ ex = .ret := by simp) :
    (ex = .normal ∨ ex = .ret) ∧ ∃ as rs σ2, ResL P (look env) [.tmp t] as ∧ rs.length = as.length ∧ TakeL (look env) (as ++ finR n (look env)) (rs ++ fin) σ2 ∧ resOf rs = res := by
  refine ⟨he, _, [.sc v], look env2, .tmp t .nil, rfl, ?_, hr⟩
  rw [hx]
  exact .plain rfl hT
/-- The same with more rules: quotients, rests, products. -/
theorem go3 {p q : Prop} (k : q) (h : Hide q → p := by
    intro k
    repeat (first
      | (apply WO.q2
         exact rfl
         (first
          | exact QE.mvSc (.move _) rfl
          | exact QE.ldO rfl rfl rfl rfl
          | exact QE.flO rfl rfl
          | exact QE.mvSc (.assign _) rfl
          | exact QE.ldI rfl rfl
          | exact QE.flI rfl
          | exact QE.mvAd (.move _) rfl
          | exact QE.mvIm (.move _) rfl
          | exact QE.len rfl
          | exact QE.cmpT rfl rfl rfl (by first | assumption | omega)
          | exact QE.cmpF rfl rfl rfl (by omega)
          | exact QE.add rfl rfl (by omega) (by omega)
          | exact QE.ldA0 rfl rfl rfl rfl
          | exact QE.ldAI rfl rfl
          | exact QE.sub rfl rfl (by omega) (by omega)
          | exact QE.nilO rfl rfl
          | exact QE.nilI rfl
          | exact QE.mvIp (.move _) rfl
          | exact QE.mvVw (.move _) rfl
          | exact QE.lenO rfl rfl
          | exact QE.not rfl
          | exact QE.pickT rfl rfl
          | exact QE.pickF rfl rfl
          | exact QE.mvNl (.move _) rfl
          | exact QE.mvAg (.move _) rfl rfl rfl
          | exact QE.mvIm (.assign _) rfl
          | exact QE.mvNl (.assign _) rfl
          | exact QE.mvIp (.assign _) rfl
          | exact QE.mvAg (.assign _) rfl rfl rfl
          | exact QE.len0 rfl
          | exact QE.mvTu (.move _) rfl rfl rfl
          | exact QE.mvTu (.assign _) rfl rfl rfl
          | exact QE.ext rfl rfl rfl rfl
          | exact QE.ldIA' rfl rfl
          | exact QE.rem rfl rfl (by first | omega | exact Int.ediv_nonneg (by omega) (by omega)) (by omega)
          | exact QE.quo rfl rfl (by omega) (by omega) (by omega)
          | exact QE.mul rfl rfl (by omega) (by omega))
         refine ⟨rfl, rfl, ?_⟩)
      | refine WO.nil ?_
      | refine WC.seq ?_
      | refine WC.region ?_
      | refine seqK.normal ?_
      | refine seqK.ret ?_
      | refine seqK.exit ?_
      | refine blkK.normal ?_
      | refine blkK.here ?_
      | refine blkK.exit rfl ?_
      | refine blkK.ret ?_
      | refine WC.block ?_
      | refine WC.skip ?_
      | refine WC.ret ?_
      | refine WC.exit ?_
      | refine lpK.exit ?_
      | refine lpK.ret ?_
      | refine WC.condT rfl ?_
      | refine WC.condF rfl ?_
      | refine WO.skip rfl rfl ?_
      | refine WO.takeOw rfl (.assign _) rfl rfl (by first | exact encL_length _ | rfl | (rw [encL_length]; simp) | simp) rfl ?_
      | refine WO.takeOp rfl (.assign _) rfl rfl rfl ?_
      | (apply WO.q2
         exact rfl
         (first | exact QE.mvAd (.assign _) rfl | exact QE.mvVw (.assign _) rfl)
         refine ⟨rfl, rfl, ?_⟩)
      | refine WO.alloc rfl rfl ?_
      | refine WO.stA rfl rfl rfl rfl rfl rfl rfl rfl rfl ?_
      | refine WO.boxA rfl rfl rfl rfl rfl ?_
      | refine WO.build0 rfl rfl rfl ?_
      | refine WDK.mk ?_
      | exact WK.mk' (by first | exact .cons _ (.nil _) | exact .cons _ (.cons _ (.nil _)) | exact .cons _ (.cons _ (.cons _ (.nil _))))
      | refine WD.nil ?_
      | (apply WD.q2
         exact rfl
         exact rfl
         exact rfl
         exact rfl
         exact rfl
         (first
          | exact QE.mvSc (.move _) rfl
          | exact QE.ldO rfl rfl rfl rfl
          | exact QE.flO rfl rfl
          | exact QE.ldI rfl rfl
          | exact QE.flI rfl
          | exact QE.mvAd (.move _) rfl
          | exact QE.mvIm (.move _) rfl
          | exact QE.len rfl
          | exact QE.cmpT rfl rfl rfl (by first | assumption | omega)
          | exact QE.cmpF rfl rfl rfl (by omega)
          | exact QE.add rfl rfl (by omega) (by omega)
          | exact QE.ldA0 rfl rfl rfl rfl
          | exact QE.ldAI rfl rfl
          | exact QE.sub rfl rfl (by omega) (by omega)
          | exact QE.nilO rfl rfl
          | exact QE.nilI rfl
          | exact QE.mvIp (.move _) rfl
          | exact QE.mvVw (.move _) rfl
          | exact QE.lenO rfl rfl
          | exact QE.not rfl
          | exact QE.pickT rfl rfl
          | exact QE.pickF rfl rfl
          | exact QE.mvNl (.move _) rfl
          | exact QE.mvAg (.move _) rfl rfl rfl
          | exact QE.len0 rfl
          | exact QE.mvTu (.move _) rfl rfl rfl
          | exact QE.ext rfl rfl rfl rfl
          | exact QE.ldIA' rfl rfl
          | exact QE.mvIm (.assign _) rfl
          | exact QE.mvSc (.assign _) rfl
          | exact QE.rem rfl rfl (by first | omega | exact Int.ediv_nonneg (by omega) (by omega)) (by omega)
          | exact QE.quo rfl rfl (by omega) (by omega) (by omega)
          | exact QE.mul rfl rfl (by omega) (by omega))
         refine ⟨rfl, rfl, rfl, ?_⟩)
      | refine WD.skip rfl rfl rfl rfl rfl rfl rfl ?_
      | refine WD.mut rfl rfl rfl ?_)
    exact k.out) : p := h ⟨k⟩
end Go.Eng
