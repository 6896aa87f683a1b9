/- The engine, part Q: tools for derivations: registers as a list, and the rules in the form in which they are used. -/
import Derived.Test.YtdihagagelngiaaEngP
namespace Go.Eng
open Go Go.RowKit
set_option linter.unusedVariables false
set_option linter.unusedSimpArgs false

abbrev Env := List (Nat × AV)
def look : Env → Nat → AV
  | [], _ => .dead
  | (k, v) :: e, t => bif Nat.beq k t then v else look e t
mutual
def nrA (d : Nat) : AV → Bool
  | .vw r _ _ _ => !(Nat.beq r d)
  | .ad r _ _ => !(Nat.beq r d)
  | .ag cs => nrL d cs
  | .tu cs => nrL d cs
  | _ => true
def nrL (d : Nat) : List AV → Bool
  | [] => true
  | c :: cs => nrA d c && nrL d cs
end
/-- No register names d. -/
def nrE (d : Nat) : Env → Bool
  | [] => true
  | (_, a) :: e => nrA d a && nrE d e
mutual
theorem nrA_mask {d : Nat} : ∀ (a : AV), nrA d a = true → mask (isR d) a = a
  | .sc _, _ => rfl
  | .nl, _ => rfl
  | .im .., _ => rfl
  | .ow .., _ => rfl
  | .ip _, _ => rfl
  | .op _, _ => rfl
  | .dead, _ => rfl
  | .vw r p off n, h => by
    have h0 : Nat.beq r d = false := by simpa only [nrA, Bool.not_eq_true'] using h
    have h' : (r == d) = false := by
      rw [Bool.eq_false_iff]; intro hb; rw [eq_of_beq hb] at h0; simp at h0
    simp only [mask, isR, h', cond_false]
  | .ad r p i, h => by
    have h0 : Nat.beq r d = false := by simpa only [nrA, Bool.not_eq_true'] using h
    have h' : (r == d) = false := by
      rw [Bool.eq_false_iff]; intro hb; rw [eq_of_beq hb] at h0; simp at h0
    simp only [mask, isR, h', cond_false]
  | .ag cs, h => by simp only [nrA] at h; simp only [mask, nrL_mask cs h]
  | .tu cs, h => by simp only [nrA] at h; simp only [mask, nrL_mask cs h]
theorem nrL_mask {d : Nat} : ∀ (cs : List AV), nrL d cs = true → maskL (isR d) cs = cs
  | [], _ => rfl
  | c :: cs, h => by
    simp only [nrL, Bool.and_eq_true] at h
    simp only [maskL, nrA_mask c h.1, nrL_mask cs h.2]
end
theorem nrE_mask {d : Nat} : ∀ (e : Env), nrE d e = true → ∀ t, mask (isR d) (look e t) = look e t
  | [], _, t => rfl
  | (k, a) :: e, h, t => by
    simp only [nrE, Bool.and_eq_true] at h
    simp only [look]
    cases Nat.beq k t
    · simp only [cond_false]; exact nrE_mask e h.2 t
    · simp only [cond_true]; exact nrA_mask a h.1
theorem look_upd (e : Env) (d : Nat) (a : AV) : upd (look e) d a = look ((d, a) :: e) := by
  funext t
  simp only [upd, look]
  by_cases h : t = d
  · subst h; simp
  · rw [if_neg h]
    have : Nat.beq d t = false := by
      cases hb : Nat.beq d t
      · rfl
      · exact absurd (Nat.eq_of_beq_eq_true hb).symm h
    rw [this, cond_false]
theorem put_look {d : Nat} {a : AV} {e : Env} (h : nrE d e = true) (ha : nrA d a = true) : put (look e) d a = look ((d, a) :: e) := by
  rw [← look_upd]
  funext t
  simp only [put]
  by_cases ht : t = d
  · subst ht; rw [upd_same]; exact nrA_mask a ha
  · rw [upd_ne _ _ _ ht]; exact nrE_mask e h t

/-! Weakest preconditions over the relation. -/
section
variable (P : Program) (X : FuncId → List AV → AV → List AV → Prop)
def WO (all : Array Oper) (l : List Oper) (σ : Nat → AV) (Q : (Nat → AV) → Prop) : Prop := ∃ σ', Ev P X (.ops all l σ σ') ∧ Q σ'
def WC (c : Code) (σ : Nat → AV) (Q : Ex → (Nat → AV) → Prop) : Prop := ∃ ex σ', Ev P X (.code c σ ex σ') ∧ Q ex σ'
def seqK0 (c : Code) (Q : Ex → (Nat → AV) → Prop) : Ex → (Nat → AV) → Prop
  | .normal, σ => WC P X c σ Q
  | e, σ => Q e σ
structure seqK (c : Code) (Q : Ex → (Nat → AV) → Prop) (e : Ex) (σ : Nat → AV) : Prop where
  out : seqK0 P X c Q e σ
structure blkK (id : Nat) (Q : Ex → (Nat → AV) → Prop) (e : Ex) (σ : Nat → AV) : Prop where
  out : Q (e.inB id) σ
end
section
variable {P : Program} {X : FuncId → List AV → AV → List AV → Prop} {Q : Ex → (Nat → AV) → Prop} {σ : Nat → AV} {all : Array Oper} {R : (Nat → AV) → Prop}
theorem WC.region {id : Nat} {l : List Oper} (h : WO P X l.toArray l σ (Q .normal)) : WC P X (.region id l.toArray false) σ Q := by
  obtain ⟨σ', h1, h2⟩ := h
  exact ⟨.normal, σ', .region (by simpa using h1), h2⟩
theorem WC.seq {a b : Code} (h : WC P X a σ (seqK P X b Q)) : WC P X (.seq a b) σ Q := by
  obtain ⟨ex, σ', h1, h2⟩ := h
  cases ex with
  | normal => obtain ⟨ex2, σ2, h3, h4⟩ := h2.out; exact ⟨ex2, σ2, .seqN h1 h3, h4⟩
  | exit id => exact ⟨_, σ', .seqX h1 (by simp), h2.out⟩
  | ret => exact ⟨_, σ', .seqX h1 (by simp), h2.out⟩
theorem seqK.normal {b : Code} (h : WC P X b σ Q) : seqK P X b Q .normal σ := ⟨h⟩
theorem seqK.exit {b : Code} {id : Nat} (h : Q (.exit id) σ) : seqK P X b Q (.exit id) σ := ⟨h⟩
theorem seqK.ret {b : Code} (h : Q .ret σ) : seqK P X b Q .ret σ := ⟨h⟩
theorem blkK.normal {id : Nat} (h : Q .normal σ) : blkK id Q .normal σ := ⟨h⟩
theorem blkK.here {id : Nat} (h : Q .normal σ) : blkK id Q (.exit id) σ := by
  constructor; unfold Ex.inB; simpa using h
theorem blkK.exit {id j : Nat} (hj : Nat.beq j id = false) (h : Q (.exit j) σ) : blkK id Q (.exit j) σ := by
  have : j ≠ id := by rintro rfl; simp at hj
  constructor; unfold Ex.inB; simpa [this] using h
theorem blkK.ret {id : Nat} (h : Q .ret σ) : blkK id Q .ret σ := ⟨h⟩
theorem WC.block {id : Nat} {a : Code} (h : WC P X a σ (blkK id Q)) : WC P X (.block id a) σ Q := by
  obtain ⟨ex, σ', h1, h2⟩ := h
  exact ⟨_, σ', .block h1, h2.out⟩
theorem WC.skip (h : Q .normal σ) : WC P X .skip σ Q := ⟨.normal, σ, .skip σ, h⟩
theorem WC.ret (h : Q .ret σ) : WC P X .ret σ Q := ⟨.ret, σ, .ret σ, h⟩
theorem WC.exit {id : Nat} (h : Q (.exit id) σ) : WC P X (.exit id) σ Q := ⟨.exit id, σ, .exit id σ, h⟩
theorem WC.loop {a : Code} (h : WC P X a σ (seqK P X (.loop a) Q)) : WC P X (.loop a) σ Q := by
  obtain ⟨ex, σ', h1, h2⟩ := h
  cases ex with
  | normal => obtain ⟨ex2, σ2, h3, h4⟩ := h2.out; exact ⟨ex2, σ2, .loopN h1 h3, h4⟩
  | exit id => exact ⟨_, σ', .loopX h1 (by simp), h2.out⟩
  | ret => exact ⟨_, σ', .loopX h1 (by simp), h2.out⟩
theorem WC.cond {c : Operand} {a b : Code} {t : Bool} (hc : ov σ c = .sc (.bool t)) (ha : t = true → WC P X a σ Q) (hb : t = false → WC P X b σ Q) : WC P X (.cond c a b) σ Q := by
  cases t
  · obtain ⟨ex, σ', h1, h2⟩ := hb rfl; exact ⟨ex, σ', .cond hc h1, h2⟩
  · obtain ⟨ex, σ', h1, h2⟩ := ha rfl; exact ⟨ex, σ', .cond hc h1, h2⟩
theorem WC.drop {c : Code} {σ' : Nat → AV} (hd : Drop σ σ') (h : WC P X c σ' Q) : WC P X c σ Q := by
  obtain ⟨ex, σ2, h1, h2⟩ := h
  exact ⟨ex, σ2, .drop hd h1, h2⟩
theorem WO.drop {l : List Oper} {σ' : Nat → AV} (hd : Drop σ σ') (h : WO P X all l σ' R) : WO P X all l σ R := by
  obtain ⟨σ2, h1, h2⟩ := h
  exact ⟨σ2, .opsDrop hd h1, h2⟩
theorem WO.nil (h : R σ) : WO P X all [] σ R := ⟨σ, .opsNil all σ, h⟩
theorem WO.op {o : Oper} {l : List Oper} {σ1 : Nat → AV} (hg : goes all σ o = some true) (h : Ev P X (.op o σ σ1)) (k : WO P X all l σ1 R) : WO P X all (o :: l) σ R := by
  obtain ⟨σ2, h1, h2⟩ := k
  exact ⟨σ2, .opsCons hg h h1, h2⟩
/-- Does an operation go on, by its guard? -/
def gg (all : Array Oper) (σ : Nat → AV) : Option (Nat × Bool) → Option Bool
  | none => some true
  | some (j, want) => match dstOf all j with
    | some d => bif Nat.blt d HB then (match σ d with | .sc (.bool b) => some (b == want) | .tu [] => some false | _ => none) else none
    | none => none
theorem gg_goes {all : Array Oper} {σ : Nat → AV} {o : Oper} {b : Bool} (h : gg all σ o.guard = some b) : goes all σ o = some b := by
  unfold goes
  cases hg : o.guard with
  | none => rw [hg] at h; exact h
  | some x =>
    rw [hg] at h
    obtain ⟨j, want⟩ := x
    simp only [gg] at h
    exact h
/-- What is kept of the registers. -/
def keep (rs : List Nat) (e : Env) : Env := rs.map fun r => (r, look e r)
theorem keep_drop (rs : List Nat) (e : Env) : Drop (look e) (look (keep rs e)) := by
  intro t
  induction rs with
  | nil => exact .inl rfl
  | cons r rs ih =>
    simp only [keep, List.map_cons, look]
    cases hb : Nat.beq r t
    · simpa only [cond_false, keep] using ih
    · have := Nat.eq_of_beq_eq_true hb
      subst this
      exact .inr rfl
/-- The registers that are kept, told one by one. -/
inductive Keep (f : Nat → AV) : Env → Prop
  | nil : Keep f []
  | cons {r : Nat} {a : AV} {e' : Env} (h : f r = a) (k : Keep f e') : Keep f ((r, a) :: e')
theorem Keep.drop {f : Nat → AV} {e' : Env} (h : Keep f e') : Drop f (look e') := by
  induction h with
  | nil => exact fun t => .inl rfl
  | @cons r a e' h k ih =>
    intro t
    simp only [look]
    cases hb : Nat.beq r t
    · simpa only [cond_false] using ih t
    · have := Nat.eq_of_beq_eq_true hb
      subst this
      exact .inr h.symm
theorem WC.keep {c : Code} {e e' : Env} (k : Keep (look e) e') (h : WC P X c (look e') Q) : WC P X c (look e) Q := .drop k.drop h
theorem WO.keep {l : List Oper} {e e' : Env} (k : Keep (look e) e') (h : WO P X all l (look e') R) : WO P X all l (look e) R := .drop k.drop h

section
variable {g : Option (Nat × Bool)} {env : Env} {d t : Nat} {l : List Oper} {ty : TypeId} {pos : String} {af : Array Edge}
/-- A quiet operation. -/
theorem WO.q (hg : gg all (look env) g = some true) {op : Op} {av : AV} (h : Ev P X (.qe ⟨some d, op, ty, pos, af, g⟩ (look env) av)) (hn : nrE d env = true) (ha : nrA d av = true) (k : WO P X all l (look ((d, av) :: env)) R) : WO P X all (⟨some d, op, ty, pos, af, g⟩ :: l) (look env) R := by
  refine WO.op (σ1 := putD (look env) (some d) av) (gg_goes hg) (.quiet h) ?_
  simp only [putD, put_look hn ha]
  exact k
inductive MV : Op → Operand → Prop
  | move (x : Operand) : MV (.move x) x
  | assign (x : Operand) : MV (.assign x) x
theorem MV.qo {op : Op} {x : Operand} (h : MV op x) : QO P (look env) op (ov (look env) x) := by cases h <;> constructor
theorem WO.mv (hg : gg all (look env) g = some true) {op : Op} {x : Operand} {av : AV} (hop : MV op x) (hx : ov (look env) x = av) (hn : nrE d env = true) (ha : nrA d av = true) (k : WO P X all l (look ((d, av) :: env)) R) : WO P X all (⟨some d, op, ty, pos, af, g⟩ :: l) (look env) R :=
  WO.q hg (.qo (by have := hop.qo (P := P) (env := env); rwa [hx] at this)) hn ha k
/-- A plain value, moved. -/
theorem WO.mvSc (hg : gg all (look env) g = some true) {op : Op} {x : Operand} {v : Value} (hop : MV op x) (hx : ov (look env) x = .sc v) (hn : nrE d env = true) (k : WO P X all l (look ((d, .sc v) :: env)) R) : WO P X all (⟨some d, op, ty, pos, af, g⟩ :: l) (look env) R := WO.mv hg hop hx hn rfl k
theorem WO.mvNl (hg : gg all (look env) g = some true) {op : Op} {x : Operand} (hop : MV op x) (hx : ov (look env) x = .nl) (hn : nrE d env = true) (k : WO P X all l (look ((d, .nl) :: env)) R) : WO P X all (⟨some d, op, ty, pos, af, g⟩ :: l) (look env) R := WO.mv hg hop hx hn rfl k
theorem WO.mvIm (hg : gg all (look env) g = some true) {op : Op} {x : Operand} {n : Nat} {cs : List AV} (hop : MV op x) (hx : ov (look env) x = .im n cs) (hn : nrE d env = true) (k : WO P X all l (look ((d, .im n cs) :: env)) R) : WO P X all (⟨some d, op, ty, pos, af, g⟩ :: l) (look env) R := WO.mv hg hop hx hn rfl k
theorem WO.mvIp (hg : gg all (look env) g = some true) {op : Op} {x : Operand} {cs : List AV} (hop : MV op x) (hx : ov (look env) x = .ip cs) (hn : nrE d env = true) (k : WO P X all l (look ((d, .ip cs) :: env)) R) : WO P X all (⟨some d, op, ty, pos, af, g⟩ :: l) (look env) R := WO.mv hg hop hx hn rfl k
theorem WO.mvVw (hg : gg all (look env) g = some true) {op : Op} {x : Operand} {r off n : Nat} {p : List Nat} (hop : MV op x) (hx : ov (look env) x = .vw r p off n) (hr : Nat.beq r d = false) (hn : nrE d env = true) (k : WO P X all l (look ((d, .vw r p off n) :: env)) R) : WO P X all (⟨some d, op, ty, pos, af, g⟩ :: l) (look env) R := WO.mv hg hop hx hn (by simp [nrA, hr]) k
theorem WO.mvAd (hg : gg all (look env) g = some true) {op : Op} {x : Operand} {r i : Nat} {p : List Nat} (hop : MV op x) (hx : ov (look env) x = .ad r p i) (hr : Nat.beq r d = false) (hn : nrE d env = true) (k : WO P X all l (look ((d, .ad r p i) :: env)) R) : WO P X all (⟨some d, op, ty, pos, af, g⟩ :: l) (look env) R := WO.mv hg hop hx hn (by simp [nrA, hr]) k
theorem refT_pl {r : Nat} {p : List Nat} {a : AV} (h : isPl a = true) : refT r p a = a := by cases a <;> simp_all [isPl, refT]
theorem refL_pl {r : Nat} : ∀ {cs : List AV} {p : List Nat} {i : Nat}, cs.all isPl = true → refL r p i cs = cs
  | [], p, i, h => rfl
  | c :: cs, p, i, h => by
    simp only [List.all_cons, Bool.and_eq_true] at h
    simp only [refL, refT_pl h.1, refL_pl h.2]
theorem nrL_pl {d : Nat} : ∀ {cs : List AV}, cs.all isPl = true → nrL d cs = true
  | [], h => rfl
  | c :: cs, h => by
    simp only [List.all_cons, Bool.and_eq_true] at h
    simp only [nrL, Bool.and_eq_true]
    exact ⟨by have := h.1; cases c <;> simp_all [isPl, nrA], nrL_pl h.2⟩
/-- A struct of plain parts. -/
theorem WO.mvAg (hg : gg all (look env) g = some true) {op : Op} {cs : List AV} (hop : MV op (.tmp t)) (ht : Nat.blt t HB = true) (hx : look env t = .ag cs) (hp : cs.all isPl = true) (hn : nrE d env = true) (k : WO P X all l (look ((d, .ag cs) :: env)) R) : WO P X all (⟨some d, op, ty, pos, af, g⟩ :: l) (look env) R :=
  WO.mv hg hop (by simp only [ov, ht, cond_true, hx, refT, refL_pl hp]) hn (by simp only [nrA, nrL_pl hp]) k

/-! What is owned leaves a register whole. -/
mutual
def hole : AV → AV
  | .ow .. => .dead
  | .op _ => .dead
  | .ag cs => .ag (holeL cs)
  | .tu cs => .tu (holeL cs)
  | a => a
def holeL : List AV → List AV
  | [] => []
  | c :: cs => hole c :: holeL cs
end
theorem WO.takeOw (hg : gg all (look env) g = some true) {op : Op} {e sz n : Nat} {cs : List AV} (hop : MV op (.tmp t)) (ht : Nat.blt t HB = true) (hx : look env t = .ow e sz n cs) (hl : cs.length = n * sz) (hn : nrE d env = true) (k : WO P X all l (look ((d, .ow e sz n cs) :: (t, .dead) :: env)) R) : WO P X all (⟨some d, op, ty, pos, af, g⟩ :: l) (look env) R := by
  have hT : TakeL (look env) [ov (look env) (.tmp t)] [.ow e sz n cs] (setS (look env) t [] .dead) := by
    simp only [ov, ht, cond_true, hx, refT]
    have := TakeL.vw (σ := look env) (σ' := setS (look env) t [] .dead) (r := t) (n := n) (p := []) (e := e) (sz := sz) (m := n) (cs := cs) (as := []) (ts := []) (by simp [getN, hx]) (Nat.le_refl _) (.nil _)
    rwa [List.take_of_length_le (by omega)] at this
  refine WO.op (σ1 := put (setS (look env) t [] .dead) d (.ow e sz n cs)) (gg_goes hg) (.take (x := .tmp t) (by cases hop <;> simp) rfl hT) ?_
  have : setS (look env) t [] .dead = look ((t, .dead) :: env) := by rw [← look_upd]; rfl
  rw [this, put_look (by simp only [nrE, nrA, hn, Bool.and_self]) rfl]
  exact k
theorem WO.takeOp (hg : gg all (look env) g = some true) {op : Op} {cs : List AV} (hop : MV op (.tmp t)) (ht : Nat.blt t HB = true) (hx : look env t = .op cs) (hn : nrE d env = true) (k : WO P X all l (look ((d, .op cs) :: (t, .dead) :: env)) R) : WO P X all (⟨some d, op, ty, pos, af, g⟩ :: l) (look env) R := by
  have hT : TakeL (look env) [ov (look env) (.tmp t)] [.op cs] (setS (look env) t [] .dead) := by
    simp only [ov, ht, cond_true, hx, refT]
    exact TakeL.ad (by simp [getN, hx]) (.nil _)
  refine WO.op (σ1 := put (setS (look env) t [] .dead) d (.op cs)) (gg_goes hg) (.take (x := .tmp t) (by cases hop <;> simp) rfl hT) ?_
  have : setS (look env) t [] .dead = look ((t, .dead) :: env) := by rw [← look_upd]; rfl
  rw [this, put_look (by simp only [nrE, nrA, hn, Bool.and_self]) rfl]
  exact k

/-! Numbers. -/
def bin64 (op : BinOp) (a b : Int) : Option Value :=
  match op with
  | .add => some (.int .i64 (wrap64 (a + b)))
  | .sub => some (.int .i64 (wrap64 (a - b)))
  | .mul => some (.int .i64 (wrap64 (a * b)))
  | .eql => some (.bool (decide (a = b)))
  | .neq => some (.bool (decide (a ≠ b)))
  | .lss => some (.bool (decide (a < b)))
  | .leq => some (.bool (decide (a ≤ b)))
  | .gtr => some (.bool (decide (a > b)))
  | .geq => some (.bool (decide (a ≥ b)))
  | _ => none
theorem bin64_run {op : BinOp} {a b : Int} {c : Value} (h : bin64 op a b = some c) (w : World) : (binOp op 0 (.int .i64 a) (.int .i64 b)).run P w = .ok c w ∧ ∀ t, binOp op t (.int .i64 a) (.int .i64 b) = binOp op 0 (.int .i64 a) (.int .i64 b) := by
  cases op <;> simp only [bin64, reduceCtorEq, Option.some.injEq] at h <;> subst h <;> refine ⟨?_, fun t => rfl⟩ <;> simp [binOp, Op.intArith, Op.intCmp, Go.IntWalk.i64_left, bne, decide_not] <;> rfl
theorem qo_bin {op : BinOp} {x y : Operand} {tx : TypeId} {a b : Int} {c : Value} (hx : ov σ x = .sc (.int .i64 a)) (hy : ov σ y = .sc (.int .i64 b)) (h : bin64 op a b = some c) : QO P σ (.binOp op tx x y ty) (cAV c) := by
  refine .pure _ c fun ρ o w ho hρ => ?_
  have e1 := hρ x _ (by rw [hx]; rfl)
  have e2 := hρ y _ (by rw [hy]; rfl)
  obtain ⟨h1, h2⟩ := bin64_run (P := P) h w
  have hg : (eqGuard op tx x y (.int .i64 a) (.int .i64 b)).run P w = .ok () w := by
    unfold eqGuard
    cases op <;> rfl
  simp only [execOp, ho, e1, e2, Sem.run_bind, hg, Result.andThen_ok, h2 tx, h1, Sem.run_pure]
theorem WO.bin (hg : gg all (look env) g = some true) {op : BinOp} {x y : Operand} {tx ty2 : TypeId} {a b : Int} {c : Value} (hx : ov (look env) x = .sc (.int .i64 a)) (hy : ov (look env) y = .sc (.int .i64 b)) (h : bin64 op a b = some c) (hc : cAV c = .sc c) (hn : nrE d env = true) (k : WO P X all l (look ((d, .sc c) :: env)) R) : WO P X all (⟨some d, .binOp op tx x y ty2, ty, pos, af, g⟩ :: l) (look env) R :=
  WO.q hg (.qo (by have := qo_bin (P := P) (ty := ty2) (tx := tx) hx hy h; rwa [hc] at this)) hn rfl k
theorem qo_not {x : Operand} {tx : TypeId} {b : Bool} (hx : ov σ x = .sc (.bool b)) : QO P σ (.unOp .not tx x) (.sc (.bool (!b))) := by
  refine .pure _ (.bool (!b)) fun ρ o w ho hρ => ?_
  have e1 := hρ x _ (by rw [hx]; rfl)
  simp [execOp, ho, e1, Op.unary]
theorem WO.not (hg : gg all (look env) g = some true) {x : Operand} {tx : TypeId} {b : Bool} (hx : ov (look env) x = .sc (.bool b)) (hn : nrE d env = true) (k : WO P X all l (look ((d, .sc (.bool (!b))) :: env)) R) : WO P X all (⟨some d, .unOp .not tx x, ty, pos, af, g⟩ :: l) (look env) R :=
  WO.q hg (.qo (qo_not hx)) hn rfl k

/-! Slices. -/
theorem WO.lenI (hg : gg all (look env) g = some true) {x : Operand} {tx e : TypeId} {n : Nat} {cs : List AV} (ht : P.underlying tx = some (.slice e)) (hx : ov (look env) x = .im n cs) (hn : nrE d env = true) (k : WO P X all l (look ((d, .sc (.int .i64 n)) :: env)) R) : WO P X all (⟨some d, .call { callee := .builtin .len, args := #[x], argTypes := #[tx] }, ty, pos, af, g⟩ :: l) (look env) R :=
  WO.q hg (.qo (.lenI tx x e n cs ht hx)) hn rfl k
theorem WO.lenN (hg : gg all (look env) g = some true) {x : Operand} {tx e : TypeId} (ht : P.underlying tx = some (.slice e)) (hx : ov (look env) x = .nl) (hn : nrE d env = true) (k : WO P X all l (look ((d, .sc (.int .i64 0)) :: env)) R) : WO P X all (⟨some d, .call { callee := .builtin .len, args := #[x], argTypes := #[tx] }, ty, pos, af, g⟩ :: l) (look env) R :=
  WO.q hg (.qo (.lenN tx x e ht hx)) hn rfl k
theorem WO.lenV (hg : gg all (look env) g = some true) {x : Operand} {tx e : TypeId} {r off n e' sz' m : Nat} {p : List Nat} {cs : List AV} (ht : P.underlying tx = some (.slice e)) (hx : ov (look env) x = .vw r p off n) (hr : getN p (look env r) = some (.ow e' sz' m cs)) (hn : nrE d env = true) (k : WO P X all l (look ((d, .sc (.int .i64 n)) :: env)) R) : WO P X all (⟨some d, .call { callee := .builtin .len, args := #[x], argTypes := #[tx] }, ty, pos, af, g⟩ :: l) (look env) R :=
  WO.q hg (.qo (.lenV tx x e r off n e' sz' m p cs ht hx hr)) hn rfl k
end

/-! Functions. -/
theorem Ev.fnW {f : FuncId} {F : Func} {c : Code} {args fin : List AV} {res : AV} {env : Env} (hF : P.funcs[f]? = some F) (hc : F.body = some c) (hnm : (F.name == "runtime.NumGoroutine") = false) (hN : Nat.ble F.ntmps HB = true) (hA : Nat.ble args.length F.ntmps = true) (hK : codeOk F.ntmps c = true) (he : Keep (enter args) env)
    (h : WC P X c (look env) fun ex σ1 => (ex = .normal ∨ ex = .ret) ∧ ∃ as rs σ2, ResL P σ1 F.results.toList as ∧ TakeL σ1 as rs σ2 ∧ resOf rs = res ∧ fins args.length σ2 = fin ∧ fin.all noRf = true) : Ev P X (.fn f args res fin) := by
  obtain ⟨ex, σ1, h1, hx, as, rs, σ2, h2, h3, rfl, rfl, h4⟩ := h
  exact .fn hF hc hnm (Nat.le_of_ble_eq_true hN) (Nat.le_of_ble_eq_true hA) hK (.drop he.drop h1) hx h2 h3 h4
end
end Go.Eng
