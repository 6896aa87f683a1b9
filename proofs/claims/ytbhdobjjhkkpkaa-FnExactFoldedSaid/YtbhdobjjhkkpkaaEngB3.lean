/- The engine: weakest preconditions over the relation; rules in the form in which they are used. -/
import Derived.Test.YtbhdobjjhkkpkaaEngB2
/- The engine, part Q: tools for derivations: registers as a list, and the rules in the form in which they are used. -/
namespace Go.Eng
open Go Go.RowKit
set_option linter.unusedVariables false
set_option linter.unusedSimpArgs false

abbrev Env := List (Nat × AV)
def look : Env → Nat → AV
  | [], _ => .dead
  | (k, v) :: e, t => bif Nat.beq k t then v else look e t
mutual
def nrA (d : Nat) : AV → Bool
  | .vw r _ _ _ => !(Nat.beq r d)
  | .ad r _ _ => !(Nat.beq r d)
  | .ag cs => nrL d cs
  | .tu cs => nrL d cs
  | _ => true
def nrL (d : Nat) : List AV → Bool
  | [] => true
  | c :: cs => nrA d c && nrL d cs
end
/-- No register names d. -/
def nrE (d : Nat) : Env → Bool
  | [] => true
  | (_, a) :: e => nrA d a && nrE d e
mutual
theorem nrA_mask {d : Nat} : ∀ (a : AV), nrA d a = true → mask (isR d) a = a
  | .sc _, _ => rfl
  | .nl, _ => rfl
  | .im .., _ => rfl
  | .ow .., _ => rfl
  | .ip _, _ => rfl
  | .op _, _ => rfl
  | .dead, _ => rfl
  | .vw r p off n, h => by
    have h0 : Nat.beq r d = false := by simpa only [nrA, Bool.not_eq_true'] using h
    have h' : (r == d) = false := by
      rw [Bool.eq_false_iff]; intro hb; rw [eq_of_beq hb] at h0; simp at h0
    simp only [mask, isR, h', cond_false]
  | .ad r p i, h => by
    have h0 : Nat.beq r d = false := by simpa only [nrA, Bool.not_eq_true'] using h
    have h' : (r == d) = false := by
      rw [Bool.eq_false_iff]; intro hb; rw [eq_of_beq hb] at h0; simp at h0
    simp only [mask, isR, h', cond_false]
  | .ag cs, h => by simp only [nrA] at h; simp only [mask, nrL_mask cs h]
  | .tu cs, h => by simp only [nrA] at h; simp only [mask, nrL_mask cs h]
theorem nrL_mask {d : Nat} : ∀ (cs : List AV), nrL d cs = true → maskL (isR d) cs = cs
  | [], _ => rfl
  | c :: cs, h => by
    simp only [nrL, Bool.and_eq_true] at h
    simp only [maskL, nrA_mask c h.1, nrL_mask cs h.2]
end
theorem nrE_mask {d : Nat} : ∀ (e : Env), nrE d e = true → ∀ t, mask (isR d) (look e t) = look e t
  | [], _, t => rfl
  | (k, a) :: e, h, t => by
    simp only [nrE, Bool.and_eq_true] at h
    simp only [look]
    cases Nat.beq k t
    · simp only [cond_false]; exact nrE_mask e h.2 t
    · simp only [cond_true]; exact nrA_mask a h.1
theorem look_upd (e : Env) (d : Nat) (a : AV) : upd (look e) d a = look ((d, a) :: e) := by
  funext t
  simp only [upd, look]
  by_cases h : t = d
  · subst h; simp
  · rw [if_neg h]
    have : Nat.beq d t = false := by
      cases hb : Nat.beq d t
      · rfl
      · exact absurd (Nat.eq_of_beq_eq_true hb).symm h
    rw [this, cond_false]
theorem put_look {d : Nat} {a : AV} {e : Env} (h : nrE d e = true) (ha : nrA d a = true) : put (look e) d a = look ((d, a) :: e) := by
  rw [← look_upd]
  funext t
  simp only [put]
  by_cases ht : t = d
  · subst ht; rw [upd_same]; exact nrA_mask a ha
  · rw [upd_ne _ _ _ ht]; exact nrE_mask e h t

/-! Weakest preconditions over the relation. -/
section
variable (P : Program) (X : FuncId → List AV → AV → List AV → Prop)
def WO (all : Array Oper) (l : List Oper) (σ : Nat → AV) (Q : (Nat → AV) → Prop) : Prop := ∃ σ', Ev P X (.ops all l σ σ') ∧ Q σ'
def WC (c : Code) (σ : Nat → AV) (Q : Ex → (Nat → AV) → Prop) : Prop := ∃ ex σ', Ev P X (.code c σ ex σ') ∧ Q ex σ'
def seqK0 (c : Code) (Q : Ex → (Nat → AV) → Prop) : Ex → (Nat → AV) → Prop
  | .normal, σ => WC P X c σ Q
  | e, σ => Q e σ
structure seqK (c : Code) (Q : Ex → (Nat → AV) → Prop) (e : Ex) (σ : Nat → AV) : Prop where
  out : seqK0 P X c Q e σ
structure blkK (id : Nat) (Q : Ex → (Nat → AV) → Prop) (e : Ex) (σ : Nat → AV) : Prop where
  out : Q (e.inB id) σ
end
section
variable {P : Program} {X : FuncId → List AV → AV → List AV → Prop} {Q : Ex → (Nat → AV) → Prop} {σ : Nat → AV} {all : Array Oper} {R : (Nat → AV) → Prop}
theorem WC.region {id : Nat} {l : List Oper} (h : WO P X l.toArray l σ (Q .normal)) : WC P X (.region id l.toArray false) σ Q := by
  obtain ⟨σ', h1, h2⟩ := h
  exact ⟨.normal, σ', .region (by simpa using h1), h2⟩
theorem WC.seq {a b : Code} (h : WC P X a σ (seqK P X b Q)) : WC P X (.seq a b) σ Q := by
  obtain ⟨ex, σ', h1, h2⟩ := h
  cases ex with
  | normal => obtain ⟨ex2, σ2, h3, h4⟩ := h2.out; exact ⟨ex2, σ2, .seqN h1 h3, h4⟩
  | exit id => exact ⟨_, σ', .seqX h1 (by simp), h2.out⟩
  | ret => exact ⟨_, σ', .seqX h1 (by simp), h2.out⟩
theorem seqK.normal {b : Code} (h : WC P X b σ Q) : seqK P X b Q .normal σ := ⟨h⟩
theorem seqK.exit {b : Code} {id : Nat} (h : Q (.exit id) σ) : seqK P X b Q (.exit id) σ := ⟨h⟩
theorem seqK.ret {b : Code} (h : Q .ret σ) : seqK P X b Q .ret σ := ⟨h⟩
theorem blkK.normal {id : Nat} (h : Q .normal σ) : blkK id Q .normal σ := ⟨h⟩
theorem blkK.here {id : Nat} (h : Q .normal σ) : blkK id Q (.exit id) σ := by
  constructor; unfold Ex.inB; simpa using h
theorem blkK.exit {id j : Nat} (hj : Nat.beq j id = false) (h : Q (.exit j) σ) : blkK id Q (.exit j) σ := by
  have : j ≠ id := by rintro rfl; simp at hj
  constructor; unfold Ex.inB; simpa [this] using h
theorem blkK.ret {id : Nat} (h : Q .ret σ) : blkK id Q .ret σ := ⟨h⟩
theorem WC.block {id : Nat} {a : Code} (h : WC P X a σ (blkK id Q)) : WC P X (.block id a) σ Q := by
  obtain ⟨ex, σ', h1, h2⟩ := h
  exact ⟨_, σ', .block h1, h2.out⟩
theorem WC.skip (h : Q .normal σ) : WC P X .skip σ Q := ⟨.normal, σ, .skip σ, h⟩
theorem WC.ret (h : Q .ret σ) : WC P X .ret σ Q := ⟨.ret, σ, .ret σ, h⟩
theorem WC.exit {id : Nat} (h : Q (.exit id) σ) : WC P X (.exit id) σ Q := ⟨.exit id, σ, .exit id σ, h⟩
theorem WC.loop {a : Code} (h : WC P X a σ (seqK P X (.loop a) Q)) : WC P X (.loop a) σ Q := by
  obtain ⟨ex, σ', h1, h2⟩ := h
  cases ex with
  | normal => obtain ⟨ex2, σ2, h3, h4⟩ := h2.out; exact ⟨ex2, σ2, .loopN h1 h3, h4⟩
  | exit id => exact ⟨_, σ', .loopX h1 (by simp), h2.out⟩
  | ret => exact ⟨_, σ', .loopX h1 (by simp), h2.out⟩
theorem WC.cond {c : Operand} {a b : Code} {t : Bool} (hc : ov σ c = .sc (.bool t)) (ha : t = true → WC P X a σ Q) (hb : t = false → WC P X b σ Q) : WC P X (.cond c a b) σ Q := by
  cases t
  · obtain ⟨ex, σ', h1, h2⟩ := hb rfl; exact ⟨ex, σ', .cond hc h1, h2⟩
  · obtain ⟨ex, σ', h1, h2⟩ := ha rfl; exact ⟨ex, σ', .cond hc h1, h2⟩
theorem WC.drop {c : Code} {σ' : Nat → AV} (hd : Drop σ σ') (h : WC P X c σ' Q) : WC P X c σ Q := by
  obtain ⟨ex, σ2, h1, h2⟩ := h
  exact ⟨ex, σ2, .drop hd h1, h2⟩
theorem WO.drop {l : List Oper} {σ' : Nat → AV} (hd : Drop σ σ') (h : WO P X all l σ' R) : WO P X all l σ R := by
  obtain ⟨σ2, h1, h2⟩ := h
  exact ⟨σ2, .opsDrop hd h1, h2⟩
theorem WO.nil (h : R σ) : WO P X all [] σ R := ⟨σ, .opsNil all σ, h⟩
theorem WO.op {o : Oper} {l : List Oper} {σ1 : Nat → AV} (hg : goes all σ o = some true) (h : Ev P X (.op o σ σ1)) (k : WO P X all l σ1 R) : WO P X all (o :: l) σ R := by
  obtain ⟨σ2, h1, h2⟩ := k
  exact ⟨σ2, .opsCons hg h h1, h2⟩
/-- Does an operation go on, by its guard? -/
def gg (all : Array Oper) (σ : Nat → AV) : Option (Nat × Bool) → Option Bool
  | none => some true
  | some (j, want) => match dstOf all j with
    | some d => bif Nat.blt d HB then (match σ d with | .sc (.bool b) => some (b == want) | .tu [] => some false | _ => none) else none
    | none => none
theorem gg_goes {all : Array Oper} {σ : Nat → AV} {o : Oper} {b : Bool} (h : gg all σ o.guard = some b) : goes all σ o = some b := by
  unfold goes
  cases hg : o.guard with
  | none => rw [hg] at h; exact h
  | some x =>
    rw [hg] at h
    obtain ⟨j, want⟩ := x
    simp only [gg] at h
    exact h
/-- What is kept of the registers. -/
def keep (rs : List Nat) (e : Env) : Env := rs.map fun r => (r, look e r)
theorem keep_drop (rs : List Nat) (e : Env) : Drop (look e) (look (keep rs e)) := by
  intro t
  induction rs with
  | nil => exact .inl rfl
  | cons r rs ih =>
    simp only [keep, List.map_cons, look]
    cases hb : Nat.beq r t
    · simpa only [cond_false, keep] using ih
    · have := Nat.eq_of_beq_eq_true hb
      subst this
      exact .inr rfl
/-- The registers that are kept, told one by one. -/
inductive Keep (f : Nat → AV) : Env → Prop
  | nil : Keep f []
  | cons {r : Nat} {a : AV} {e' : Env} (h : f r = a) (k : Keep f e') : Keep f ((r, a) :: e')
theorem Keep.drop {f : Nat → AV} {e' : Env} (h : Keep f e') : Drop f (look e') := by
  induction h with
  | nil => exact fun t => .inl rfl
  | @cons r a e' h k ih =>
    intro t
    simp only [look]
    cases hb : Nat.beq r t
    · simpa only [cond_false] using ih t
    · have := Nat.eq_of_beq_eq_true hb
      subst this
      exact .inr h.symm
theorem WC.keep {c : Code} {e e' : Env} (k : Keep (look e) e') (h : WC P X c (look e') Q) : WC P X c (look e) Q := .drop k.drop h
theorem WO.keep {l : List Oper} {e e' : Env} (k : Keep (look e) e') (h : WO P X all l (look e') R) : WO P X all l (look e) R := .drop k.drop h

section
variable {g : Option (Nat × Bool)} {env : Env} {d t : Nat} {l : List Oper} {ty : TypeId} {pos : String} {af : Array Edge}
/-- A quiet operation. -/
theorem WO.q (hg : gg all (look env) g = some true) {op : Op} {av : AV} (h : Ev P X (.qe ⟨some d, op, ty, pos, af, g⟩ (look env) av)) (hn : nrE d env = true) (ha : nrA d av = true) (k : WO P X all l (look ((d, av) :: env)) R) : WO P X all (⟨some d, op, ty, pos, af, g⟩ :: l) (look env) R := by
  refine WO.op (σ1 := putD (look env) (some d) av) (gg_goes hg) (.quiet h) ?_
  simp only [putD, put_look hn ha]
  exact k
inductive MV : Op → Operand → Prop
  | move (x : Operand) : MV (.move x) x
  | assign (x : Operand) : MV (.assign x) x
theorem MV.qo {op : Op} {x : Operand} (h : MV op x) : QO P (look env) op (ov (look env) x) := by cases h <;> constructor
theorem WO.mv (hg : gg all (look env) g = some true) {op : Op} {x : Operand} {av : AV} (hop : MV op x) (hx : ov (look env) x = av) (hn : nrE d env = true) (ha : nrA d av = true) (k : WO P X all l (look ((d, av) :: env)) R) : WO P X all (⟨some d, op, ty, pos, af, g⟩ :: l) (look env) R :=
  WO.q hg (.qo (by have := hop.qo (P := P) (env := env); rwa [hx] at this)) hn ha k
/-- A plain value, moved. -/
theorem WO.mvSc (hg : gg all (look env) g = some true) {op : Op} {x : Operand} {v : Value} (hop : MV op x) (hx : ov (look env) x = .sc v) (hn : nrE d env = true) (k : WO P X all l (look ((d, .sc v) :: env)) R) : WO P X all (⟨some d, op, ty, pos, af, g⟩ :: l) (look env) R := WO.mv hg hop hx hn rfl k
theorem WO.mvNl (hg : gg all (look env) g = some true) {op : Op} {x : Operand} (hop : MV op x) (hx : ov (look env) x = .nl) (hn : nrE d env = true) (k : WO P X all l (look ((d, .nl) :: env)) R) : WO P X all (⟨some d, op, ty, pos, af, g⟩ :: l) (look env) R := WO.mv hg hop hx hn rfl k
theorem WO.mvIm (hg : gg all (look env) g = some true) {op : Op} {x : Operand} {n : Nat} {cs : List AV} (hop : MV op x) (hx : ov (look env) x = .im n cs) (hn : nrE d env = true) (k : WO P X all l (look ((d, .im n cs) :: env)) R) : WO P X all (⟨some d, op, ty, pos, af, g⟩ :: l) (look env) R := WO.mv hg hop hx hn rfl k
theorem WO.mvIp (hg : gg all (look env) g = some true) {op : Op} {x : Operand} {cs : List AV} (hop : MV op x) (hx : ov (look env) x = .ip cs) (hn : nrE d env = true) (k : WO P X all l (look ((d, .ip cs) :: env)) R) : WO P X all (⟨some d, op, ty, pos, af, g⟩ :: l) (look env) R := WO.mv hg hop hx hn rfl k
theorem WO.mvVw (hg : gg all (look env) g = some true) {op : Op} {x : Operand} {r off n : Nat} {p : List Nat} (hop : MV op x) (hx : ov (look env) x = .vw r p off n) (hr : Nat.beq r d = false) (hn : nrE d env = true) (k : WO P X all l (look ((d, .vw r p off n) :: env)) R) : WO P X all (⟨some d, op, ty, pos, af, g⟩ :: l) (look env) R := WO.mv hg hop hx hn (by simp [nrA, hr]) k
theorem WO.mvAd (hg : gg all (look env) g = some true) {op : Op} {x : Operand} {r i : Nat} {p : List Nat} (hop : MV op x) (hx : ov (look env) x = .ad r p i) (hr : Nat.beq r d = false) (hn : nrE d env = true) (k : WO P X all l (look ((d, .ad r p i) :: env)) R) : WO P X all (⟨some d, op, ty, pos, af, g⟩ :: l) (look env) R := WO.mv hg hop hx hn (by simp [nrA, hr]) k
theorem refT_pl {r : Nat} {p : List Nat} {a : AV} (h : isPl a = true) : refT r p a = a := by cases a <;> simp_all [isPl, refT]
theorem refL_pl {r : Nat} : ∀ {cs : List AV} {p : List Nat} {i : Nat}, cs.all isPl = true → refL r p i cs = cs
  | [], p, i, h => rfl
  | c :: cs, p, i, h => by
    simp only [List.all_cons, Bool.and_eq_true] at h
    simp only [refL, refT_pl h.1, refL_pl h.2]
theorem nrL_pl {d : Nat} : ∀ {cs : List AV}, cs.all isPl = true → nrL d cs = true
  | [], h => rfl
  | c :: cs, h => by
    simp only [List.all_cons, Bool.and_eq_true] at h
    simp only [nrL, Bool.and_eq_true]
    exact ⟨by have := h.1; cases c <;> simp_all [isPl, nrA], nrL_pl h.2⟩
/-- A struct of plain parts. -/
theorem WO.mvAg (hg : gg all (look env) g = some true) {op : Op} {cs : List AV} (hop : MV op (.tmp t)) (ht : Nat.blt t HB = true) (hx : look env t = .ag cs) (hp : cs.all isPl = true) (hn : nrE d env = true) (k : WO P X all l (look ((d, .ag cs) :: env)) R) : WO P X all (⟨some d, op, ty, pos, af, g⟩ :: l) (look env) R :=
  WO.mv hg hop (by simp only [ov, ht, cond_true, hx, refT, refL_pl hp]) hn (by simp only [nrA, nrL_pl hp]) k

/-! What is owned leaves a register whole. -/
mutual
def hole : AV → AV
  | .ow .. => .dead
  | .op _ => .dead
  | .ag cs => .ag (holeL cs)
  | .tu cs => .tu (holeL cs)
  | a => a
def holeL : List AV → List AV
  | [] => []
  | c :: cs => hole c :: holeL cs
end
theorem WO.takeOw (hg : gg all (look env) g = some true) {op : Op} {e sz n : Nat} {cs : List AV} (hop : MV op (.tmp t)) (ht : Nat.blt t HB = true) (hx : look env t = .ow e sz n cs) (hl : cs.length = n * sz) (hn : nrE d env = true) (k : WO P X all l (look ((d, .ow e sz n cs) :: (t, .dead) :: env)) R) : WO P X all (⟨some d, op, ty, pos, af, g⟩ :: l) (look env) R := by
  have hT : TakeL (look env) [ov (look env) (.tmp t)] [.ow e sz n cs] (setS (look env) t [] .dead) := by
    simp only [ov, ht, cond_true, hx, refT]
    have := TakeL.vw (σ := look env) (σ' := setS (look env) t [] .dead) (r := t) (n := n) (p := []) (e := e) (sz := sz) (m := n) (cs := cs) (as := []) (ts := []) (by simp [getN, hx]) (Nat.le_refl _) (.nil _)
    rwa [List.take_of_length_le (by omega)] at this
  refine WO.op (σ1 := put (setS (look env) t [] .dead) d (.ow e sz n cs)) (gg_goes hg) (.take (x := .tmp t) (by cases hop <;> simp) rfl hT) ?_
  have : setS (look env) t [] .dead = look ((t, .dead) :: env) := by rw [← look_upd]; rfl
  rw [this, put_look (by simp only [nrE, nrA, hn, Bool.and_self]) rfl]
  exact k
theorem WO.takeOp (hg : gg all (look env) g = some true) {op : Op} {cs : List AV} (hop : MV op (.tmp t)) (ht : Nat.blt t HB = true) (hx : look env t = .op cs) (hn : nrE d env = true) (k : WO P X all l (look ((d, .op cs) :: (t, .dead) :: env)) R) : WO P X all (⟨some d, op, ty, pos, af, g⟩ :: l) (look env) R := by
  have hT : TakeL (look env) [ov (look env) (.tmp t)] [.op cs] (setS (look env) t [] .dead) := by
    simp only [ov, ht, cond_true, hx, refT]
    exact TakeL.ad (by simp [getN, hx]) (.nil _)
  refine WO.op (σ1 := put (setS (look env) t [] .dead) d (.op cs)) (gg_goes hg) (.take (x := .tmp t) (by cases hop <;> simp) rfl hT) ?_
  have : setS (look env) t [] .dead = look ((t, .dead) :: env) := by rw [← look_upd]; rfl
  rw [this, put_look (by simp only [nrE, nrA, hn, Bool.and_self]) rfl]
  exact k

/-! Numbers. -/
def bin64 (op : BinOp) (a b : Int) : Option Value :=
  match op with
  | .add => some (.int .i64 (wrap64 (a + b)))
  | .sub => some (.int .i64 (wrap64 (a - b)))
  | .mul => some (.int .i64 (wrap64 (a * b)))
  | .eql => some (.bool (decide (a = b)))
  | .neq => some (.bool (decide (a ≠ b)))
  | .lss => some (.bool (decide (a < b)))
  | .leq => some (.bool (decide (a ≤ b)))
  | .gtr => some (.bool (decide (a > b)))
  | .geq => some (.bool (decide (a ≥ b)))
  | _ => none
theorem bin64_run {op : BinOp} {a b : Int} {c : Value} (h : bin64 op a b = some c) (w : World) : (binOp op 0 (.int .i64 a) (.int .i64 b)).run P w = .ok c w ∧ ∀ t, binOp op t (.int .i64 a) (.int .i64 b) = binOp op 0 (.int .i64 a) (.int .i64 b) := by
  cases op <;> simp only [bin64, reduceCtorEq, Option.some.injEq] at h <;> subst h <;> refine ⟨?_, fun t => rfl⟩ <;> simp [binOp, Op.intArith, Op.intCmp, Go.IntWalk.i64_left, bne, decide_not] <;> rfl
theorem qo_bin {op : BinOp} {x y : Operand} {tx : TypeId} {a b : Int} {c : Value} (hx : ov σ x = .sc (.int .i64 a)) (hy : ov σ y = .sc (.int .i64 b)) (h : bin64 op a b = some c) : QO P σ (.binOp op tx x y ty) (cAV c) := by
  refine .pure _ c fun ρ o w ho hρ => ?_
  have e1 := hρ x _ (by rw [hx]; rfl)
  have e2 := hρ y _ (by rw [hy]; rfl)
  obtain ⟨h1, h2⟩ := bin64_run (P := P) h w
  have hg : (eqGuard op tx x y (.int .i64 a) (.int .i64 b)).run P w = .ok () w := by
    unfold eqGuard
    cases op <;> rfl
  simp only [execOp, ho, e1, e2, Sem.run_bind, hg, Result.andThen_ok, h2 tx, h1, Sem.run_pure]
theorem WO.bin (hg : gg all (look env) g = some true) {op : BinOp} {x y : Operand} {tx ty2 : TypeId} {a b : Int} {c : Value} (hx : ov (look env) x = .sc (.int .i64 a)) (hy : ov (look env) y = .sc (.int .i64 b)) (h : bin64 op a b = some c) (hc : cAV c = .sc c) (hn : nrE d env = true) (k : WO P X all l (look ((d, .sc c) :: env)) R) : WO P X all (⟨some d, .binOp op tx x y ty2, ty, pos, af, g⟩ :: l) (look env) R :=
  WO.q hg (.qo (by have := qo_bin (P := P) (ty := ty2) (tx := tx) hx hy h; rwa [hc] at this)) hn rfl k
theorem qo_not {x : Operand} {tx : TypeId} {b : Bool} (hx : ov σ x = .sc (.bool b)) : QO P σ (.unOp .not tx x) (.sc (.bool (!b))) := by
  refine .pure _ (.bool (!b)) fun ρ o w ho hρ => ?_
  have e1 := hρ x _ (by rw [hx]; rfl)
  simp [execOp, ho, e1, Op.unary]
theorem WO.not (hg : gg all (look env) g = some true) {x : Operand} {tx : TypeId} {b : Bool} (hx : ov (look env) x = .sc (.bool b)) (hn : nrE d env = true) (k : WO P X all l (look ((d, .sc (.bool (!b))) :: env)) R) : WO P X all (⟨some d, .unOp .not tx x, ty, pos, af, g⟩ :: l) (look env) R :=
  WO.q hg (.qo (qo_not hx)) hn rfl k

/-! Slices. -/
theorem WO.lenI (hg : gg all (look env) g = some true) {x : Operand} {tx e : TypeId} {n : Nat} {cs : List AV} (ht : P.underlying tx = some (.slice e)) (hx : ov (look env) x = .im n cs) (hn : nrE d env = true) (k : WO P X all l (look ((d, .sc (.int .i64 n)) :: env)) R) : WO P X all (⟨some d, .call { callee := .builtin .len, args := #[x], argTypes := #[tx] }, ty, pos, af, g⟩ :: l) (look env) R :=
  WO.q hg (.qo (.lenI tx x e n cs ht hx)) hn rfl k
theorem WO.lenN (hg : gg all (look env) g = some true) {x : Operand} {tx e : TypeId} (ht : P.underlying tx = some (.slice e)) (hx : ov (look env) x = .nl) (hn : nrE d env = true) (k : WO P X all l (look ((d, .sc (.int .i64 0)) :: env)) R) : WO P X all (⟨some d, .call { callee := .builtin .len, args := #[x], argTypes := #[tx] }, ty, pos, af, g⟩ :: l) (look env) R :=
  WO.q hg (.qo (.lenN tx x e ht hx)) hn rfl k
theorem WO.lenV (hg : gg all (look env) g = some true) {x : Operand} {tx e : TypeId} {r off n e' sz' m : Nat} {p : List Nat} {cs : List AV} (ht : P.underlying tx = some (.slice e)) (hx : ov (look env) x = .vw r p off n) (hr : getN p (look env r) = some (.ow e' sz' m cs)) (hn : nrE d env = true) (k : WO P X all l (look ((d, .sc (.int .i64 n)) :: env)) R) : WO P X all (⟨some d, .call { callee := .builtin .len, args := #[x], argTypes := #[tx] }, ty, pos, af, g⟩ :: l) (look env) R :=
  WO.q hg (.qo (.lenV tx x e r off n e' sz' m p cs ht hx hr)) hn rfl k
end

/-! Functions. -/
theorem Ev.fnW {f : FuncId} {F : Func} {c : Code} {args fin : List AV} {res : AV} {env : Env} (hF : P.funcs[f]? = some F) (hc : F.body = some c) (hnm : (F.name == "runtime.NumGoroutine") = false) (hN : Nat.ble F.ntmps HB = true) (hA : Nat.ble args.length F.ntmps = true) (hK : codeOk F.ntmps c = true) (he : Keep (enter args) env)
    (h : WC P X c (look env) fun ex σ1 => (ex = .normal ∨ ex = .ret) ∧ ∃ as rs σ2, ResL P σ1 F.results.toList as ∧ TakeL σ1 as rs σ2 ∧ resOf rs = res ∧ fins args.length σ2 = fin ∧ fin.all noRf = true) : Ev P X (.fn f args res fin) := by
  obtain ⟨ex, σ1, h1, hx, as, rs, σ2, h2, h3, rfl, rfl, h4⟩ := h
  exact .fn hF hc hnm (Nat.le_of_ble_eq_true hN) (Nat.le_of_ble_eq_true hA) hK (.drop he.drop h1) hx h2 h3 h4
end
end Go.Eng
/- The engine, part R: rules over lists that are laid out cell by cell; facts of types as instances. -/
namespace Go.Eng
open Go Go.RowKit
set_option linter.unusedVariables false
set_option linter.unusedSimpArgs false

/-! Facts of types, found by the type's number. -/
class SlT (P : Program) (t : TypeId) (e sz : outParam Nat) : Prop where
  ht : P.underlying t = some (.slice e)
  hs : szT P e = some sz
  h0 : 0 < sz
class ZrT (P : Program) (e : TypeId) (by_ : outParam Nat) (z : outParam Value) (cs : outParam (List AV)) : Prop where
  hb : bytesT P e = some by_
  hz : zeroT P e = some z
  h1 : z.cells.toList.all (·.oneCell') = true
  hc : z.cells.toList.map c1 = cs
def flT (P : Program) (s : TypeId) (f : Nat) : Option Nat :=
  match P.underlying s with
  | some (.struct fs) => (fs[f]?).bind fun fd => (szT P fd.type).bind fun n => bif Nat.blt 0 n then some fd.offset else none
  | _ => none
theorem flT_some {P : Program} {s : TypeId} {f off : Nat} (h : flT P s f = some off) : ∃ fs fd n, P.underlying s = some (.struct fs) ∧ fs[f]? = some fd ∧ szT P fd.type = some n ∧ 0 < n ∧ fd.offset = off := by
  unfold flT at h
  split at h
  · rename_i fs hu
    simp only [Option.bind_eq_some_iff] at h
    obtain ⟨fd, h1, n, h2, h3⟩ := h
    cases hb : Nat.blt 0 n
    · rw [hb] at h3; simp at h3
    · rw [hb, cond_true, Option.some.injEq] at h3
      have : 0 < n := Nat.le_of_ble_eq_true hb
      exact ⟨fs, fd, n, hu, h1, h2, this, h3⟩
  · simp at h
class FlT (P : Program) (s : TypeId) (f : Nat) (off : outParam Nat) : Prop where
  h : flT P s f = some off
class AgT (P : Program) (t : TypeId) (s : outParam Nat) : Prop where
  ht : aggT P t = some true
  hs : szT P t = some s
  h0 : 0 < s
class OnT (P : Program) (t : TypeId) : Prop where
  ht : aggT P t = some false
  hs : szT P t = some 1
class ArT (P : Program) (t : TypeId) (len e n : outParam Nat) : Prop where
  ht : P.underlying t = some (.array len e)
  hn : szT P e = some n

/-! Lists, laid out. -/
def encL {α : Type} (f : α → List AV) (l : List α) : List AV := l.flatMap f
theorem encL_nil {α : Type} (f : α → List AV) : encL f [] = [] := rfl
theorem encL_cons {α : Type} (f : α → List AV) (x : α) (l : List α) : encL f (x :: l) = f x ++ encL f l := rfl
theorem encL_append {α : Type} (f : α → List AV) (l m : List α) : encL f (l ++ m) = encL f l ++ encL f m := by simp [encL]
class Wid {α : Type} (f : α → List AV) (sz : outParam Nat) : Prop where
  w : ∀ x, (f x).length = sz
theorem encL_length {α : Type} {f : α → List AV} {sz : Nat} [h : Wid f sz] : ∀ (l : List α), (encL f l).length = l.length * sz
  | [] => by simp [encL]
  | x :: l => by rw [encL_cons, List.length_append, h.w, encL_length l, List.length_cons, Nat.succ_mul, Nat.add_comm]
theorem encL_drop {α : Type} {f : α → List AV} {sz : Nat} [h : Wid f sz] : ∀ (i : Nat) (l : List α), (encL f l).drop (i * sz) = encL f (l.drop i)
  | 0, l => by simp
  | i + 1, [] => by simp [encL]
  | i + 1, x :: l => by
    have e : (i + 1) * sz = (f x).length + i * sz := by rw [h.w, Nat.succ_mul, Nat.add_comm]
    rw [encL_cons, e, ← List.drop_drop, List.drop_left, encL_drop i l, List.drop_succ_cons]
theorem encL_take {α : Type} {f : α → List AV} {sz : Nat} [h : Wid f sz] : ∀ (i : Nat) (l : List α), (encL f l).take (i * sz) = encL f (l.take i)
  | 0, l => by simp [encL]
  | i + 1, [] => by simp [encL]
  | i + 1, x :: l => by
    have e : (i + 1) * sz = (f x).length + i * sz := by rw [h.w, Nat.succ_mul, Nat.add_comm]
    rw [encL_cons, e, List.take_length_add_append, encL_take i l, List.take_succ_cons, encL_cons]
theorem encL_at {α : Type} {f : α → List AV} {sz : Nat} [h : Wid f sz] {l : List α} {i : Nat} (hi : i < l.length) (d : α) : (encL f l).drop (i * sz) = f (l.getD i d) ++ encL f (l.drop (i + 1)) := by
  rw [encL_drop, List.drop_eq_getElem_cons hi, encL_cons, List.getD_eq_getElem?_getD, List.getElem?_eq_getElem hi]; rfl
theorem encL_get {α : Type} {f : α → List AV} {sz : Nat} [h : Wid f sz] {l : List α} {i j : Nat} (hi : i < l.length) (hj : j < sz) (d : α) : (encL f l)[i * sz + j]? = (f (l.getD i d))[j]? := by
  have e := congrArg (fun (m : List AV) => m[j]?) (encL_at (f := f) (sz := sz) hi d)
  simp only [List.getElem?_drop] at e
  rw [e, List.getElem?_append_left (by rw [h.w]; exact hj)]
theorem encL_set {α : Type} {f : α → List AV} {sz : Nat} [h : Wid f sz] : ∀ {l : List α} {i j : Nat} {c : AV} {y : α} (hi : i < l.length) (hj : j < sz) (d : α) (hy : (f (l.getD i d)).set j c = f y), (encL f l).set (i * sz + j) c = encL f (l.set i y)
  | x :: l, 0, j, c, y, hi, hj, d, hy => by
    simp only [List.getD_cons_zero] at hy
    rw [Nat.zero_mul, Nat.zero_add, encL_cons, List.set_cons_zero, encL_cons, List.set_append_left _ _ (by rw [h.w]; exact hj), hy]
  | x :: l, i + 1, j, c, y, hi, hj, d, hy => by
    simp only [List.getD_cons_succ] at hy
    have e : (i + 1) * sz + j = (f x).length + (i * sz + j) := by rw [h.w, Nat.succ_mul]; omega
    rw [encL_cons, e, List.set_append_right _ _ (by omega), Nat.add_sub_cancel_left, encL_set (by simpa using hi) hj d hy, List.set_cons_succ, encL_cons]
def eI (n : Int) : List AV := [.sc (.int .i64 n)]
instance : Wid eI 1 := ⟨fun _ => rfl⟩
def eB (b : Bool) : List AV := [.sc (.bool b)]
instance : Wid eB 1 := ⟨fun _ => rfl⟩
/-- A slice of its own within another one, or a struct. -/
def eO {α : Type} (e sz : Nat) (f : α → List AV) (l : List α) : List AV := [.ow e sz l.length (encL f l)]
instance {α : Type} (e sz : Nat) (f : α → List AV) : Wid (eO e sz f) 1 := ⟨fun _ => rfl⟩
/-- One that is only read. -/
def eR {α : Type} (f : α → List AV) (l : List α) : List AV := [.im l.length (encL f l)]
instance {α : Type} (f : α → List AV) : Wid (eR f) 1 := ⟨fun _ => rfl⟩
class Pl {α : Type} (f : α → List AV) : Prop where
  p : ∀ x, (f x).all isPl = true
instance : Pl eI := ⟨fun _ => rfl⟩
instance : Pl eB := ⟨fun _ => rfl⟩
instance {α : Type} (f : α → List AV) : Pl (eR f) := ⟨fun _ => rfl⟩
theorem encL_pl {α : Type} {f : α → List AV} [h : Pl f] : ∀ (l : List α), (encL f l).all isPl = true
  | [] => rfl
  | x :: l => by rw [encL_cons, List.all_append, h.p x, encL_pl l]; rfl

section
variable {P : Program} {X : FuncId → List AV → AV → List AV → Prop} {σ : Nat → AV} {all : Array Oper} {R : (Nat → AV) → Prop}
variable {g : Option (Nat × Bool)} {env : Env} {d t : Nat} {l : List Oper} {ty : TypeId} {pos : String} {af : Array Edge} {α : Type} {f : α → List AV}
theorem WO.len (hg : gg all (look env) g = some true) {x : Operand} {tx e sz n : Nat} {cs : List AV} [hT : SlT P tx e sz] (hx : ov (look env) x = .im n cs) (hn : nrE d env = true) (k : WO P X all l (look ((d, .sc (.int .i64 n)) :: env)) R) : WO P X all (⟨some d, .call { callee := .builtin .len, args := #[x], argTypes := #[tx] }, ty, pos, af, g⟩ :: l) (look env) R :=
  WO.lenI hg hT.ht hx hn k
theorem WO.lenO (hg : gg all (look env) g = some true) {x : Operand} {tx e sz r off n e' sz' m : Nat} {p : List Nat} {cs : List AV} [hT : SlT P tx e sz] (hx : ov (look env) x = .vw r p off n) (hr : getN p (look env r) = some (.ow e' sz' m cs)) (hn : nrE d env = true) (k : WO P X all l (look ((d, .sc (.int .i64 n)) :: env)) R) : WO P X all (⟨some d, .call { callee := .builtin .len, args := #[x], argTypes := #[tx] }, ty, pos, af, g⟩ :: l) (look env) R :=
  WO.lenV hg hT.ht hx hr hn k
theorem WO.len0 (hg : gg all (look env) g = some true) {x : Operand} {tx e sz : Nat} [hT : SlT P tx e sz] (hx : ov (look env) x = .nl) (hn : nrE d env = true) (k : WO P X all l (look ((d, .sc (.int .i64 0)) :: env)) R) : WO P X all (⟨some d, .call { callee := .builtin .len, args := #[x], argTypes := #[tx] }, ty, pos, af, g⟩ :: l) (look env) R :=
  WO.lenN hg hT.ht hx hn k
/-- An element of a slice that is only read. -/
theorem WO.ixI (hg : gg all (look env) g = some true) {x ix : Operand} {tx e sz : Nat} {k0 : IntKind} {i : Int} {xs : List α} [hT : SlT P tx e sz] [hW : Wid f sz] (dv : α) (hx : ov (look env) x = .im xs.length (encL f xs)) (hi : ov (look env) ix = .sc (.int k0 i)) (h0 : 0 ≤ i) (h1 : i < (xs.length : Int)) (hn : nrE d env = true)
    (k : WO P X all l (look ((d, .ip (f (xs.getD i.toNat dv) ++ encL f (xs.drop (i.toNat + 1)))) :: env)) R) : WO P X all (⟨some d, .indexAddr tx x ix, ty, pos, af, g⟩ :: l) (look env) R := by
  have hlt : i.toNat < xs.length := by omega
  have hz := hT.h0
  have hc : i.toNat * sz < (encL f xs).length := by rw [encL_length (sz := sz)]; exact Nat.mul_lt_mul_of_pos_right hlt hz
  have := QO.indexI (P := P) (σ := look env) tx x ix e sz k0 i xs.length (encL f xs) hT.ht hT.hs hi hx h0 h1 hc
  rw [encL_at (sz := sz) hlt dv] at this
  exact WO.q hg (.qo this) hn rfl k
/-- An element of a slice that is owned. -/
theorem WO.ixO (hg : gg all (look env) g = some true) {x ix : Operand} {tx e sz r off n m e' sz' : Nat} {p : List Nat} {k0 : IntKind} {i : Int} {cs : List AV} [hT : SlT P tx e sz] (hx : ov (look env) x = .vw r p off n) (hr : getN p (look env r) = some (.ow e' sz' m cs)) (hl : off + n * sz ≤ cs.length) (hi : ov (look env) ix = .sc (.int k0 i)) (h0 : 0 ≤ i) (h1 : i < (n : Int)) (hrd : Nat.beq r d = false) (hn : nrE d env = true)
    (k : WO P X all l (look ((d, .ad r p (off + i.toNat * sz)) :: env)) R) : WO P X all (⟨some d, .indexAddr tx x ix, ty, pos, af, g⟩ :: l) (look env) R :=
  WO.q hg (.qo (.indexV tx x ix e sz k0 i r off n m e' sz' p cs hT.ht hT.hs hi hx hr hl hT.h0 h0 h1)) hn (by simp [nrA, hrd]) k
theorem WO.fl (hg : gg all (look env) g = some true) {x : Operand} {s fd off : Nat} {c : AV} [hT : FlT P s fd off] (hc : adv (look env) (ov (look env) x) off = some c) (ha : nrA d c = true) (hn : nrE d env = true) (k : WO P X all l (look ((d, c) :: env)) R) : WO P X all (⟨some d, .fieldAddr s x fd, ty, pos, af, g⟩ :: l) (look env) R := by
  obtain ⟨fs, f', n, h1, h2, h3, h4, rfl⟩ := flT_some hT.h
  exact WO.q hg (.qo (.fieldAddr s x fd n fs f' c h1 h2 h3 h4 hc)) hn ha k
theorem WO.flI (hg : gg all (look env) g = some true) {x : Operand} {s fd off : Nat} {cs : List AV} [hT : FlT P s fd off] (hc : ov (look env) x = .ip cs) (hn : nrE d env = true) (k : WO P X all l (look ((d, .ip (cs.drop off)) :: env)) R) : WO P X all (⟨some d, .fieldAddr s x fd, ty, pos, af, g⟩ :: l) (look env) R :=
  WO.fl hg (by rw [hc]; rfl) rfl hn k
theorem WO.flO (hg : gg all (look env) g = some true) {x : Operand} {s fd off r i : Nat} {p : List Nat} {cs : List AV} [hT : FlT P s fd off] (hc : ov (look env) x = .ad r p i) (hr : nodeCells (look env) r p = some cs) (hrd : Nat.beq r d = false) (hn : nrE d env = true) (k : WO P X all l (look ((d, .ad r p (i + off)) :: env)) R) : WO P X all (⟨some d, .fieldAddr s x fd, ty, pos, af, g⟩ :: l) (look env) R :=
  WO.fl hg (by rw [hc]; simp only [adv, hr, Option.map_some]) (by simp [nrA, hrd]) hn k
theorem WO.ldI (hg : gg all (look env) g = some true) {x : Operand} {tx : TypeId} {cs : List AV} {c : AV} [hT : OnT P tx] (hx : ov (look env) x = .ip cs) (hc : cs[0]? = some c) (ha : nrA d c = true) (hn : nrE d env = true) (k : WO P X all l (look ((d, c) :: env)) R) : WO P X all (⟨some d, .load tx x, ty, pos, af, g⟩ :: l) (look env) R :=
  WO.q hg (.qo (.load tx x c (.one c hT.ht (by rw [hx]; exact hc)))) hn ha k
theorem WO.ldIA (hg : gg all (look env) g = some true) {x : Operand} {tx s : Nat} {cs rest : List AV} [hT : AgT P tx s] (hx : ov (look env) x = .ip (cs ++ rest)) (hl : cs.length = s) (ha : nrL d cs = true) (hn : nrE d env = true) (k : WO P X all l (look ((d, .ag cs) :: env)) R) : WO P X all (⟨some d, .load tx x, ty, pos, af, g⟩ :: l) (look env) R :=
  WO.q hg (.qo (.load tx x (.ag cs) (.many cs s hT.ht hT.hs hl hT.h0 (fun k hk => by rw [hx]; simp only [cell]; rw [List.getElem?_append_left (by omega)])))) hn (by simpa only [nrA] using ha) k
/-- A cell of what is owned; what is plain. -/
theorem WO.ldO (hg : gg all (look env) g = some true) {x : Operand} {tx r i : Nat} {p : List Nat} {cs : List AV} {c : AV} [hT : OnT P tx] (hx : ov (look env) x = .ad r p i) (hr : nodeCells (look env) r p = some cs) (hc : cs[i]? = some c) (hp : isPl c = true) (hn : nrE d env = true) (k : WO P X all l (look ((d, c) :: env)) R) : WO P X all (⟨some d, .load tx x, ty, pos, af, g⟩ :: l) (look env) R :=
  WO.q hg (.qo (.load tx x c (.one c hT.ht (by rw [hx]; simp only [cell, hr, Option.bind_some, Nat.add_zero, hc, Option.map_some, refT_pl hp])))) hn (by cases c <;> simp_all [isPl, nrA]) k
/-- A slice within what is owned. -/
theorem WO.ldOw (hg : gg all (look env) g = some true) {x : Operand} {tx r i e sz n : Nat} {p : List Nat} {cs cs' : List AV} [hT : OnT P tx] (hx : ov (look env) x = .ad r p i) (hr : nodeCells (look env) r p = some cs) (hc : cs[i]? = some (.ow e sz n cs')) (hrd : Nat.beq r d = false) (hn : nrE d env = true) (k : WO P X all l (look ((d, .vw r (p ++ [i]) 0 n) :: env)) R) : WO P X all (⟨some d, .load tx x, ty, pos, af, g⟩ :: l) (look env) R :=
  WO.q hg (.qo (.load tx x _ (.one _ hT.ht (by rw [hx]; simp only [cell, hr, Option.bind_some, Nat.add_zero, hc, Option.map_some, refT])))) hn (by simp [nrA, hrd]) k
/-- A struct of plain parts within what is owned. -/
theorem WO.ldOA (hg : gg all (look env) g = some true) {x : Operand} {tx s r i : Nat} {p : List Nat} {cs L : List AV} [hT : AgT P tx s] (hx : ov (look env) x = .ad r p i) (hr : nodeCells (look env) r p = some cs) (hL : (cs.drop i).take s = L) (hl : L.length = s) (hp : L.all isPl = true) (hn : nrE d env = true) (k : WO P X all l (look ((d, .ag L) :: env)) R) : WO P X all (⟨some d, .load tx x, ty, pos, af, g⟩ :: l) (look env) R := by
  refine WO.q hg (.qo (.load tx x (.ag L) (.many L s hT.ht hT.hs hl hT.h0 (fun k hk => ?_)))) hn (by simp only [nrA, nrL_pl hp]) k
  rw [hx]
  simp only [cell, hr, Option.bind_some]
  have hk' : k < L.length := by omega
  have e : L[k]? = cs[i + k]? := by rw [← hL, List.getElem?_take, if_pos hk, List.getElem?_drop]
  rw [← e, List.getElem?_eq_getElem hk', Option.map_some, refT_pl (List.all_eq_true.1 hp _ (List.getElem_mem _))]
/-- A plain value is stored into what is owned. -/
theorem WO.st1 (hg : gg all (look env) g = some true) {x y : Operand} {tx r i e sz n : Nat} {p : List Nat} {cs : List AV} {c : AV} {σ' : Nat → AV} [hT : OnT P tx] (hx : ov (look env) x = .ad r p i) (hy : ov (look env) y = c) (hp : isPl c = true) {nd : AV} (hr : getN p (look env r) = some nd) (hk : (∃ e sz n, nd = .ow e sz n cs) ∨ nd = .op cs) (hi : i < cs.length) (hs : modS (look env) r p (isC r p i) (withKids nd (cs.set i c)) = σ')
    (k : WO P X all l σ' R) : WO P X all (⟨none, .store tx x y, ty, pos, af, g⟩ :: l) (look env) R := by
  refine WO.op (σ1 := putD σ' none .dead) (gg_goes hg) (.store (σ1 := look env) (vs := [c]) (tr := c) rfl hx ?_ (by rw [hy]; exact .plain hp (.nil _)) (by cases c <;> simp_all [isPl, acells]) hT.hs ?_) k
  · unfold nodeCells; rw [hr]; rcases hk with ⟨e, sz, n, rfl⟩ | rfl <;> rfl
  · rw [← hs]; exact .cons hr hk hi (.nil _ _ _ _)
/-! References into what is turned. -/
end
mutual
def nbA (r m : Nat) : AV → Bool
  | .vw r' q _ _ => !(Nat.beq r' r) || Nat.ble q.length m
  | .ad r' q _ => !(Nat.beq r' r) || Nat.ble q.length m
  | .ag cs => nbL r m cs
  | .tu cs => nbL r m cs
  | _ => true
def nbL (r m : Nat) : List AV → Bool
  | [] => true
  | c :: cs => nbA r m c && nbL r m cs
end
def nbE (r m : Nat) : Env → Bool
  | [] => true
  | (_, a) :: e => nbA r m a && nbE r m e
theorem isC_short {r i r' : Nat} {p q : List Nat} (h : (!(Nat.beq r' r) || Nat.ble q.length p.length) = true) : isC r p i r' q = false := by
  unfold isC
  rw [Bool.or_eq_true] at h
  rcases h with h | h
  · have : (r' == r) = false := by
      rw [Bool.eq_false_iff]; intro hb; rw [eq_of_beq hb] at h; simp at h
    rw [this, Bool.false_and]
  · have hl := Nat.le_of_ble_eq_true h
    have : (p ++ [i]).isPrefixOf q = false := by
      rw [Bool.eq_false_iff]; intro hb
      have := (List.isPrefixOf_iff_prefix.1 hb).length_le
      simp at this; omega
    rw [this, Bool.and_false]
mutual
theorem nbA_mask {r i : Nat} {p : List Nat} : ∀ (a : AV), nbA r p.length a = true → mask (isC r p i) a = a
  | .sc _, _ => rfl
  | .nl, _ => rfl
  | .im .., _ => rfl
  | .ow .., _ => rfl
  | .ip _, _ => rfl
  | .op _, _ => rfl
  | .dead, _ => rfl
  | .vw r' q off n, h => by simp only [mask, isC_short h, cond_false]
  | .ad r' q j, h => by simp only [mask, isC_short h, cond_false]
  | .ag cs, h => by simp only [nbA] at h; simp only [mask, nbL_mask cs h]
  | .tu cs, h => by simp only [nbA] at h; simp only [mask, nbL_mask cs h]
theorem nbL_mask {r i : Nat} {p : List Nat} : ∀ (cs : List AV), nbL r p.length cs = true → maskL (isC r p i) cs = cs
  | [], _ => rfl
  | c :: cs, h => by
    simp only [nbL, Bool.and_eq_true] at h
    simp only [maskL, nbA_mask c h.1, nbL_mask cs h.2]
end
theorem nbE_mask {r i : Nat} {p : List Nat} : ∀ (e : Env), nbE r p.length e = true → ∀ t, mask (isC r p i) (look e t) = look e t
  | [], _, t => rfl
  | (k, a) :: e, h, t => by
    simp only [nbE, Bool.and_eq_true] at h
    simp only [look]
    cases Nat.beq k t
    · simp only [cond_false]; exact nbE_mask e h.2 t
    · simp only [cond_true]; exact nbA_mask a h.1
theorem modS_look {r i : Nat} {p : List Nat} {e : Env} {x : AV} (h : nbE r p.length e = true) (hx : nbA r p.length (setN p (look e r) x) = true) : modS (look e) r p (isC r p i) x = look ((r, setN p (look e r) x) :: e) := by
  rw [← look_upd]
  funext t
  simp only [modS]
  by_cases ht : t = r
  · subst ht; rw [upd_same]; exact nbA_mask _ hx
  · rw [upd_ne _ _ _ ht]; exact nbE_mask e h t
def setL {α : Type} (cs : List α) (i : Nat) : List α → List α
  | [] => cs
  | c :: L => setL (cs.set i c) (i + 1) L
theorem setL_length {α : Type} : ∀ (L : List α) (cs : List α) (i : Nat), (setL cs i L).length = cs.length
  | [], cs, i => rfl
  | c :: L, cs, i => by rw [setL, setL_length, List.length_set]
/-- A node whose cells are turned. -/
theorem StoreL.root {r : Nat} : ∀ (vs : List AV) {e : Env} {i : Nat} {nd : AV} {cs : List AV}, nbE r 0 e = true → look e r = nd → ((∃ e sz n, nd = .ow e sz n cs) ∨ nd = .op cs) → i + vs.length ≤ cs.length → ∃ e', StoreL (look e) r [] i vs (look e') ∧ look e' = look ((r, withKids nd (setL cs i vs)) :: e)
  | [], e, i, nd, cs, hn, hl, hk, hi => by
    refine ⟨e, .nil _ _ _ _, ?_⟩
    rw [← look_upd]
    funext t
    by_cases ht : t = r
    · subst ht; rw [upd_same, hl, setL]; rcases hk with ⟨_, _, _, rfl⟩ | rfl <;> rfl
    · rw [upd_ne _ _ _ ht]
  | c :: vs, e, i, nd, cs, hn, hl, hk, hi => by
    simp only [List.length_cons] at hi
    have h1 : modS (look e) r [] (isC r [] i) (withKids nd (cs.set i c)) = look ((r, withKids nd (cs.set i c)) :: e) :=
      modS_look hn (by rcases hk with ⟨_, _, _, rfl⟩ | rfl <;> rfl)
    have hk' : (∃ e sz n, withKids nd (cs.set i c) = .ow e sz n (cs.set i c)) ∨ withKids nd (cs.set i c) = .op (cs.set i c) := by
      rcases hk with ⟨e, sz, n, rfl⟩ | rfl
      · exact .inl ⟨e, sz, n, rfl⟩
      · exact .inr rfl
    obtain ⟨e', g1, g2⟩ := StoreL.root (r := r) vs (e := (r, withKids nd (cs.set i c)) :: e) (i := i + 1) (nd := withKids nd (cs.set i c)) (cs := cs.set i c) (by
      simp only [nbE, hn, Bool.and_true]; rcases hk with ⟨_, _, _, rfl⟩ | rfl <;> rfl) (by simp [look]) hk' (by rw [List.length_set]; omega)
    refine ⟨e', .cons (by simp only [getN]; rw [hl]) hk (by omega) (by rw [h1]; exact g1), ?_⟩
    rw [g2, ← look_upd, ← look_upd, ← look_upd]
    funext t
    by_cases ht : t = r
    · subst ht; rw [upd_same, upd_same, setL]; rcases hk with ⟨_, _, _, rfl⟩ | rfl <;> rfl
    · rw [upd_ne _ _ _ ht, upd_ne _ _ _ ht, upd_ne _ _ _ ht]

/-! A whole tree leaves its register. -/
mutual
/-- Whole: without references, each slice with all its cells. -/
def whA : AV → Bool
  | .sc _ | .nl | .im _ _ | .ip _ | .op _ => true
  | .ow _ sz n cs => Nat.beq cs.length (n * sz)
  | .ag cs => whL cs
  | .tu cs => whL cs
  | _ => false
def whL : List AV → Bool
  | [] => true
  | c :: cs => whA c && whL cs
end
theorem getN_append : ∀ (p q : List Nat) (a : AV), getN (p ++ q) a = (getN p a).bind (getN q)
  | [], q, a => rfl
  | j :: p, q, a => by
    simp only [List.cons_append, getN]
    cases kids a with
    | none => rfl
    | some cs =>
      simp only [Option.bind_some]
      cases cs[j]? with
      | none => rfl
      | some c => simp only [Option.bind_some, getN_append p q c]
theorem kids_lt {cs : List AV} {j : Nat} {c : AV} (h : cs[j]? = some c) : j < cs.length := (List.getElem?_eq_some_iff.1 h).1
theorem getN_setN : ∀ (p : List Nat) {a x y : AV}, getN p a = some x → getN p (setN p a y) = some y
  | [], a, x, y, h => rfl
  | j :: p, a, x, y, h => by
    simp only [getN, Option.bind_eq_some_iff] at h
    obtain ⟨cs, hk, c, hc, h⟩ := h
    simp only [setN, hk, hc, getN, kids_with hk, Option.bind_some, List.getElem?_set_self (kids_lt hc)]
    exact getN_setN p h
theorem withKids_withKids (a : AV) (cs ds : List AV) : withKids (withKids a cs) ds = withKids a ds := by cases a <;> rfl
theorem setN_setN : ∀ (p : List Nat) {a x y z : AV}, getN p a = some x → setN p (setN p a y) z = setN p a z
  | [], a, x, y, z, h => rfl
  | j :: p, a, x, y, z, h => by
    simp only [getN, Option.bind_eq_some_iff] at h
    obtain ⟨cs, hk, c, hc, h⟩ := h
    simp only [setN, hk, hc, kids_with hk, List.getElem?_set_self (kids_lt hc), withKids_withKids, List.set_set, setN_setN p h]
theorem setN_snoc : ∀ (p : List Nat) {a x : AV} {cs : List AV} {j : Nat} {c y : AV}, getN p a = some x → kids x = some cs → cs[j]? = some c → setN (p ++ [j]) a y = setN p a (withKids x (cs.set j y))
  | [], a, x, cs, j, c, y, h, hk, hc => by
    simp only [getN, Option.some.injEq] at h
    subst h
    simp only [List.nil_append, setN, hk, hc]
  | i :: p, a, x, cs, j, c, y, h, hk, hc => by
    simp only [getN, Option.bind_eq_some_iff] at h
    obtain ⟨ds, hd, e, he, h⟩ := h
    simp only [List.cons_append, setN, hd, he, setN_snoc p h hk hc]
theorem withKids_self {a : AV} {cs : List AV} (h : kids a = some cs) : withKids a cs = a := by
  cases a <;> simp_all [kids, withKids]
theorem setN_self : ∀ (p : List Nat) {a x : AV}, getN p a = some x → setN p a x = a
  | [], a, x, h => by simp only [getN, Option.some.injEq] at h; subst h; rfl
  | j :: p, a, x, h => by
    simp only [getN, Option.bind_eq_some_iff] at h
    obtain ⟨cs, hk, c, hc, h⟩ := h
    simp only [setN, hk, hc, setN_self p h]
    have : cs.set j c = cs := by
      obtain ⟨hlt, he⟩ := List.getElem?_eq_some_iff.1 hc
      rw [← he, List.set_getElem_self]
    rw [this]; exact withKids_self hk
theorem setS_setS {σ : Nat → AV} {r : Nat} {p : List Nat} {x y z : AV} (h : getN p (σ r) = some x) : setS (setS σ r p y) r p z = setS σ r p z := by
  funext t
  unfold setS
  by_cases ht : t = r
  · subst ht; simp only [upd_same, setN_setN p h]
  · simp only [upd_ne _ _ _ ht]
mutual
theorem TakeL.whole {r : Nat} : ∀ (a : AV) {σ σ' : Nat → AV} {p : List Nat} {as ts : List AV}, whA a = true → getN p (σ r) = some a → TakeL (setS σ r p (hole a)) as ts σ' → TakeL σ (refT r p a :: as) (a :: ts) σ'
  | .sc v, σ, σ', p, as, ts, hw, hg, k => by
    have : setS σ r p (.sc v) = σ := by
      funext t; unfold setS; by_cases ht : t = r
      · subst ht; rw [upd_same]; exact setN_self p hg
      · rw [upd_ne _ _ _ ht]
    simp only [hole] at k; rw [this] at k; exact .plain rfl k
  | .nl, σ, σ', p, as, ts, hw, hg, k => by
    have : setS σ r p .nl = σ := by
      funext t; unfold setS; by_cases ht : t = r
      · subst ht; rw [upd_same]; exact setN_self p hg
      · rw [upd_ne _ _ _ ht]
    simp only [hole] at k; rw [this] at k; exact .plain rfl k
  | .im n cs, σ, σ', p, as, ts, hw, hg, k => by
    have : setS σ r p (.im n cs) = σ := by
      funext t; unfold setS; by_cases ht : t = r
      · subst ht; rw [upd_same]; exact setN_self p hg
      · rw [upd_ne _ _ _ ht]
    simp only [hole] at k; rw [this] at k; exact .plain rfl k
  | .ip cs, σ, σ', p, as, ts, hw, hg, k => by
    have : setS σ r p (.ip cs) = σ := by
      funext t; unfold setS; by_cases ht : t = r
      · subst ht; rw [upd_same]; exact setN_self p hg
      · rw [upd_ne _ _ _ ht]
    simp only [hole] at k; rw [this] at k; exact .plain rfl k
  | .ow e sz n cs, σ, σ', p, as, ts, hw, hg, k => by
    simp only [hole] at k
    simp only [whA] at hw
    have hl := Nat.eq_of_beq_eq_true hw
    have := TakeL.vw (r := r) (n := n) (p := p) hg (Nat.le_refl _) k
    rw [List.take_of_length_le (by omega)] at this
    simpa only [refT] using this
  | .op cs, σ, σ', p, as, ts, hw, hg, k => by
    simp only [hole] at k
    simpa only [refT] using TakeL.ad hg k
  | .ag cs, σ, σ', p, as, ts, hw, hg, k => by
    simp only [whA] at hw
    simp only [hole] at k
    simp only [refT]
    refine .ag ?_ k
    exact TakeL.wholeL cs (done := []) (rest := cs) (x := .ag cs) hw rfl hg rfl (fun _ => rfl)
  | .tu cs, σ, σ', p, as, ts, hw, hg, k => by
    simp only [whA] at hw
    simp only [hole] at k
    simp only [refT]
    refine .tu ?_ k
    exact TakeL.wholeL cs (done := []) (rest := cs) (x := .tu cs) hw rfl hg rfl (fun _ => rfl)
  | .vw .., _, _, _, _, _, hw, _, _ => by simp [whA] at hw
  | .ad .., _, _, _, _, _, hw, _, _ => by simp [whA] at hw
  | .dead, _, _, _, _, _, hw, _, _ => by simp [whA] at hw
theorem TakeL.wholeL {r : Nat} : ∀ (cs : List AV) {σ : Nat → AV} {p : List Nat} {done rest : List AV} {x : AV}, whL cs = true → rest = cs → getN p (σ r) = some x → kids x = some (done ++ rest) → (∀ ds, kids (withKids x ds) = some ds) → TakeL σ (refL r p done.length cs) cs (setS σ r p (withKids x (done ++ holeL cs)))
  | [], σ, p, done, rest, x, hw, hr, hg, hk, hkk => by
    subst hr
    simp only [refL, holeL, List.append_nil] at hk ⊢
    have : setS σ r p (withKids x done) = σ := by
      funext t; unfold setS; by_cases ht : t = r
      · subst ht; rw [upd_same, withKids_self hk]; exact setN_self p hg
      · rw [upd_ne _ _ _ ht]
    rw [this]; exact .nil _
  | c :: cs, σ, p, done, rest, x, hw, hr, hg, hk, hkk => by
    subst hr
    simp only [whL, Bool.and_eq_true] at hw
    simp only [refL]
    have hc : (done ++ c :: cs)[done.length]? = some c := by simp
    have hgc : getN (p ++ [done.length]) (σ r) = some c := by
      rw [getN_append, hg, Option.bind_some]; simp only [getN, hk, Option.bind_some, hc]
    refine TakeL.whole c hw.1 hgc ?_
    have hset : setS σ r (p ++ [done.length]) (hole c) = setS σ r p (withKids x (done ++ hole c :: cs)) := by
      funext t; unfold setS; by_cases ht : t = r
      · subst ht; rw [upd_same, upd_same, setN_snoc p hg hk hc]; congr 2; simp
      · rw [upd_ne _ _ _ ht, upd_ne _ _ _ ht]
    rw [hset]
    have hg' : getN p (setS σ r p (withKids x (done ++ hole c :: cs)) r) = some (withKids x (done ++ hole c :: cs)) := by
      unfold setS; rw [upd_same]; exact getN_setN p hg
    have ih := TakeL.wholeL cs (σ := setS σ r p (withKids x (done ++ hole c :: cs))) (p := p) (done := done ++ [hole c]) (rest := cs) (x := withKids x (done ++ hole c :: cs)) hw.2 rfl hg' (by rw [hkk]; simp) (fun ds => by rw [withKids_withKids]; exact hkk ds)
    rw [setS_setS hg, withKids_withKids] at ih
    simpa [holeL] using ih
end
end Go.Eng
/- The engine, part S: more rules in the form in which they are used. -/
namespace Go.Eng
open Go Go.RowKit
set_option linter.unusedVariables false
set_option linter.unusedSimpArgs false

theorem w64 {n : Int} (h0 : -9223372036854775808 ≤ n) (h1 : n ≤ 9223372036854775807) : wrap64 n = n := by unfold wrap64; omega
theorem mask_isU {r : Nat} {p : List Nat} {r' : Nat} {q : List Nat} (h : (!(Nat.beq r' r) || Nat.ble q.length p.length) = true) : isU r p r' q = false := by
  unfold isU
  rw [Bool.or_eq_true] at h
  rcases h with h | h
  · have : (r' == r) = false := by
      rw [Bool.eq_false_iff]; intro hb; rw [eq_of_beq hb] at h; simp at h
    rw [this, Bool.false_and]
  · have hl := Nat.le_of_ble_eq_true h
    have : decide (p.length < q.length) = false := by simp; omega
    rw [this, Bool.and_false, Bool.and_false]
mutual
theorem nbA_maskU {r : Nat} {p : List Nat} : ∀ (a : AV), nbA r p.length a = true → mask (isU r p) a = a
  | .sc _, _ => rfl
  | .nl, _ => rfl
  | .im .., _ => rfl
  | .ow .., _ => rfl
  | .ip _, _ => rfl
  | .op _, _ => rfl
  | .dead, _ => rfl
  | .vw r' q off n, h => by simp only [mask, mask_isU h, cond_false]
  | .ad r' q j, h => by simp only [mask, mask_isU h, cond_false]
  | .ag cs, h => by simp only [nbA] at h; simp only [mask, nbL_maskU cs h]
  | .tu cs, h => by simp only [nbA] at h; simp only [mask, nbL_maskU cs h]
theorem nbL_maskU {r : Nat} {p : List Nat} : ∀ (cs : List AV), nbL r p.length cs = true → maskL (isU r p) cs = cs
  | [], _ => rfl
  | c :: cs, h => by
    simp only [nbL, Bool.and_eq_true] at h
    simp only [maskL, nbA_maskU c h.1, nbL_maskU cs h.2]
end
theorem nbE_maskU {r : Nat} {p : List Nat} : ∀ (e : Env), nbE r p.length e = true → ∀ t, mask (isU r p) (look e t) = look e t
  | [], _, t => rfl
  | (k, a) :: e, h, t => by
    simp only [nbE, Bool.and_eq_true] at h
    simp only [look]
    cases Nat.beq k t
    · simp only [cond_false]; exact nbE_maskU e h.2 t
    · simp only [cond_true]; exact nbA_maskU a h.1
theorem modS_lookU {r : Nat} {p : List Nat} {e : Env} {x : AV} (h : nbE r p.length e = true) (hx : nbA r p.length (setN p (look e r) x) = true) : modS (look e) r p (isU r p) x = look ((r, setN p (look e r) x) :: e) := by
  rw [← look_upd]
  funext t
  simp only [modS]
  by_cases ht : t = r
  · subst ht; rw [upd_same]; exact nbA_maskU _ hx
  · rw [upd_ne _ _ _ ht]; exact nbE_maskU e h t
theorem setS_look {r : Nat} {p : List Nat} {e : Env} {x : AV} : setS (look e) r p x = look ((r, setN p (look e r) x) :: e) := by
  rw [← look_upd]; rfl
theorem hardL_pl : ∀ {cs : List AV}, cs.all isPl = true → hardL cs = cs
  | [], _ => rfl
  | c :: cs, h => by
    simp only [List.all_cons, Bool.and_eq_true] at h
    simp only [hardL, hardL_pl h.2]
    have := h.1
    cases c <;> simp_all [isPl, hard]
theorem FrzL.plains {σ : Nat → AV} : ∀ {as : List AV}, as.all isPlA = true → FrzL σ as as
  | [], _ => .nil
  | a :: as, h => by
    simp only [List.all_cons, Bool.and_eq_true] at h
    have ih := FrzL.plains (σ := σ) h.2
    have h1 := h.1
    cases a
    case ag cs =>
      refine .ag ?_ ih
      simp only [isPlA] at h1
      clear h ih
      induction cs with
      | nil => exact .nil
      | cons c cs ih =>
        simp only [List.all_cons, Bool.and_eq_true] at h1
        exact .cons (.plain c h1.1) (ih h1.2)
    all_goals exact .cons (.plain _ (by simpa only [isPlA] using h1)) ih

section
variable {P : Program} {X : FuncId → List AV → AV → List AV → Prop} {σ : Nat → AV} {all : Array Oper} {R : (Nat → AV) → Prop}
variable {g : Option (Nat × Bool)} {env : Env} {d t : Nat} {l : List Oper} {ty : TypeId} {pos : String} {af : Array Edge} {α : Type} {f : α → List AV}
theorem WO.skip {op : Op} (hg : gg all (look env) g = some false) (hn : nrE d env = true) (k : WO P X all l (look ((d, .tu []) :: env)) R) : WO P X all (⟨some d, op, ty, pos, af, g⟩ :: l) (look env) R := by
  obtain ⟨σ', h1, h2⟩ := k
  refine ⟨σ', .opsSkip (gg_goes hg) ?_, h2⟩
  simp only [putD, put_look hn (show nrA d (.tu []) = true from rfl)]
  exact h1
theorem WO.pick {c x y : Operand} {b : Bool} {av : AV} (hg : gg all (look env) g = some true) (hc : ov (look env) c = .sc (.bool b)) (hx : (bif b then ov (look env) x else ov (look env) y) = av) (hn : nrE d env = true) (ha : nrA d av = true) (k : WO P X all l (look ((d, av) :: env)) R) : WO P X all (⟨some d, .pick c x y, ty, pos, af, g⟩ :: l) (look env) R :=
  WO.q hg (.qo (hx ▸ .pick c x y b hc)) hn ha k
/-- A comparison, the one way or the other. -/
theorem WO.cmp {op : BinOp} {x y : Operand} {tx ty2 : TypeId} {a b : Int} {p : Prop} [Decidable p] (hg : gg all (look env) g = some true) (hx : ov (look env) x = .sc (.int .i64 a)) (hy : ov (look env) y = .sc (.int .i64 b)) (h : bin64 op a b = some (.bool (decide p))) (hn : nrE d env = true)
    (kt : p → WO P X all l (look ((d, .sc (.bool true)) :: env)) R) (kf : ¬ p → WO P X all l (look ((d, .sc (.bool false)) :: env)) R) : WO P X all (⟨some d, .binOp op tx x y ty2, ty, pos, af, g⟩ :: l) (look env) R := by
  refine WO.bin hg hx hy h rfl hn ?_
  by_cases hp : p
  · simpa only [hp, decide_true] using kt hp
  · simpa only [hp, decide_false] using kf hp
theorem WO.cmpT {op : BinOp} {x y : Operand} {tx ty2 : TypeId} {a b : Int} {p : Prop} [Decidable p] (hg : gg all (look env) g = some true) (hx : ov (look env) x = .sc (.int .i64 a)) (hy : ov (look env) y = .sc (.int .i64 b)) (h : bin64 op a b = some (.bool (decide p))) (hn : nrE d env = true) (hp : p)
    (k : WO P X all l (look ((d, .sc (.bool true)) :: env)) R) : WO P X all (⟨some d, .binOp op tx x y ty2, ty, pos, af, g⟩ :: l) (look env) R :=
  WO.cmp hg hx hy h hn (fun _ => k) (fun h => absurd hp h)
theorem WO.cmpF {op : BinOp} {x y : Operand} {tx ty2 : TypeId} {a b : Int} {p : Prop} [Decidable p] (hg : gg all (look env) g = some true) (hx : ov (look env) x = .sc (.int .i64 a)) (hy : ov (look env) y = .sc (.int .i64 b)) (h : bin64 op a b = some (.bool (decide p))) (hn : nrE d env = true) (hp : ¬ p)
    (k : WO P X all l (look ((d, .sc (.bool false)) :: env)) R) : WO P X all (⟨some d, .binOp op tx x y ty2, ty, pos, af, g⟩ :: l) (look env) R :=
  WO.cmp hg hx hy h hn (fun h => absurd h hp) (fun _ => k)
theorem WO.add {x y : Operand} {tx ty2 : TypeId} {a b : Int} (hg : gg all (look env) g = some true) (hx : ov (look env) x = .sc (.int .i64 a)) (hy : ov (look env) y = .sc (.int .i64 b)) (hn : nrE d env = true) (h0 : -9223372036854775808 ≤ a + b) (h1 : a + b ≤ 9223372036854775807)
    (k : WO P X all l (look ((d, .sc (.int .i64 (a + b))) :: env)) R) : WO P X all (⟨some d, .binOp .add tx x y ty2, ty, pos, af, g⟩ :: l) (look env) R :=
  WO.bin hg hx hy (c := .int .i64 (a + b)) (by simp only [bin64, w64 h0 h1]) rfl hn k
theorem WO.sub {x y : Operand} {tx ty2 : TypeId} {a b : Int} (hg : gg all (look env) g = some true) (hx : ov (look env) x = .sc (.int .i64 a)) (hy : ov (look env) y = .sc (.int .i64 b)) (hn : nrE d env = true) (h0 : -9223372036854775808 ≤ a - b) (h1 : a - b ≤ 9223372036854775807)
    (k : WO P X all l (look ((d, .sc (.int .i64 (a - b))) :: env)) R) : WO P X all (⟨some d, .binOp .sub tx x y ty2, ty, pos, af, g⟩ :: l) (look env) R :=
  WO.bin hg hx hy (c := .int .i64 (a - b)) (by simp only [bin64, w64 h0 h1]) rfl hn k
theorem WO.ixN {x ix : Operand} {tx e sz : Nat} {k0 : IntKind} {i : Nat} {xs : List α} [hT : SlT P tx e sz] [hW : Wid f sz] (dv : α) (hg : gg all (look env) g = some true) (hx : ov (look env) x = .im xs.length (encL f xs)) (hi : ov (look env) ix = .sc (.int k0 (i : Int))) (h1 : i < xs.length) (hn : nrE d env = true)
    (k : WO P X all l (look ((d, .ip (f (xs.getD i dv) ++ encL f (xs.drop (i + 1)))) :: env)) R) : WO P X all (⟨some d, .indexAddr tx x ix, ty, pos, af, g⟩ :: l) (look env) R :=
  WO.ixI (f := f) hg dv hx hi (by omega) (by omega) hn k
theorem WO.ixM {x ix : Operand} {tx e sz r n m e' sz' : Nat} {p : List Nat} {k0 : IntKind} {i : Nat} {cs : List AV} [hT : SlT P tx e sz] (hg : gg all (look env) g = some true) (hx : ov (look env) x = .vw r p 0 n) (hr : getN p (look env r) = some (.ow e' sz' m cs)) (hl : n * sz ≤ cs.length) (hi : ov (look env) ix = .sc (.int k0 (i : Int))) (h1 : i < n) (hrd : Nat.beq r d = false) (hn : nrE d env = true)
    (k : WO P X all l (look ((d, .ad r p (i * sz)) :: env)) R) : WO P X all (⟨some d, .indexAddr tx x ix, ty, pos, af, g⟩ :: l) (look env) R := by
  refine WO.ixO hg hx hr (by omega) hi (by omega) (by omega) hrd hn ?_
  simpa using k
/-- The rest of a slice that is only read. -/
theorem WO.slI {x : Operand} {tx e sz : Nat} {lo hi : Option Operand} {i j : Int} {xs : List α} [hT : SlT P tx e sz] [hW : Wid f sz] (hg : gg all (look env) g = some true) (hx : ov (look env) x = .im xs.length (encL f xs)) (hl : bnd (look env) 0 lo = some i) (hh : bnd (look env) xs.length hi = some j) (h0 : 0 ≤ i) (h1 : i ≤ j) (h2 : j ≤ (xs.length : Int)) (hn : nrE d env = true)
    (k : WO P X all l (look ((d, .im ((xs.drop i.toNat).take (j.toNat - i.toNat)).length (encL f ((xs.drop i.toNat).take (j.toNat - i.toNat)))) :: env)) R) : WO P X all (⟨some d, .slice tx x lo hi none, ty, pos, af, g⟩ :: l) (look env) R := by
  have := QO.sliceI (P := P) (σ := look env) tx x lo hi e sz i j xs.length (encL f xs) hT.ht hT.hs hT.h0 hx hl hh h0 h1 h2
  rw [encL_drop (sz := sz), encL_take (sz := sz)] at this
  refine WO.q hg (.qo ?_) hn rfl k
  have e1 : (List.take (j.toNat - i.toNat) (List.drop i.toNat xs)).length = j.toNat - i.toNat := by simp; omega
  rw [e1]
  exact this
/-- A new variable. -/
theorem WO.alloc {e by_ : Nat} {z : Value} {cs : List AV} [hZ : ZrT P e by_ z cs] (hg : gg all (look env) g = some true) (hn : nrE d env = true) (k : WO P X all l (look ((d, .op cs) :: env)) R) : WO P X all (⟨some d, .alloc e, ty, pos, af, g⟩ :: l) (look env) R :=
  WO.q hg (.qo (hZ.hc ▸ .alloc e z hZ.hz hZ.h1)) hn rfl k
theorem TakeL.pls {σ : Nat → AV} : ∀ {cs : List AV}, cs.all isPl = true → TakeL σ cs cs σ
  | [], _ => .nil _
  | c :: cs, hp => by
    simp only [List.all_cons, Bool.and_eq_true] at hp
    exact .plain hp.1 (TakeL.pls hp.2)
theorem WO.boxA {e : Nat} {cs : List AV} (hg : gg all (look env) g = some true) (ht : Nat.blt t HB = true) (hx : look env t = .ag cs) (hp : cs.all isPl = true) (hn : nrE d env = true) (k : WO P X all l (look ((d, .op cs) :: env)) R) : WO P X all (⟨some d, .box e (.tmp t), ty, pos, af, g⟩ :: l) (look env) R := by
  have hT : TakeL (look env) [ov (look env) (.tmp t)] [.ag cs] (look env) := by
    simp only [ov, ht, cond_true, hx, refT, refL_pl hp]
    exact .ag (TakeL.pls hp) (.nil _)
  refine WO.op (σ1 := put (look env) d (.op cs)) (gg_goes hg) (.box rfl rfl hT rfl) ?_
  rw [put_look hn rfl]
  exact k
theorem WO.box1 {e : Nat} {c : AV} {x : Operand} (hg : gg all (look env) g = some true) (hx : ov (look env) x = c) (hp : isPl c = true) (hn : nrE d env = true) (k : WO P X all l (look ((d, .op [c]) :: env)) R) : WO P X all (⟨some d, .box e x, ty, pos, af, g⟩ :: l) (look env) R := by
  refine WO.op (σ1 := put (look env) d (.op [c])) (gg_goes hg) (.box rfl rfl (t := c) (by rw [hx]; exact .plain hp (.nil _)) (by cases c <;> simp_all [isPl, acells])) ?_
  rw [put_look hn rfl]
  exact k
theorem zr_size {e by_ sz : Nat} {z : Value} {zc : List AV} (hZ : ZrT P e by_ z zc) (hz : Nat.beq zc.length sz = true) : z.cells.size = sz := by
  have := congrArg List.length hZ.hc
  rw [Nat.eq_of_beq_eq_true hz] at this
  simpa using this
theorem made_enc {z : Value} {sz : Nat} (hz : z.cells.size = sz) (h0 : 0 < sz) {dv : α} (hd : z.cells.toList.map c1 = f dv) : ∀ (n : Nat), (madeCells z.cells (n * sz)).toList.map c1 = encL f (List.replicate n dv) := by
  intro n
  have hl : (f dv).length = sz := by rw [← hd]; simp [hz]
  have hr : ∀ n, (encL f (List.replicate n dv)).length = n * sz := by
    intro n
    induction n with
    | zero => simp [encL]
    | succ n ih => rw [List.replicate_succ, encL_cons, List.length_append, ih, hl, Nat.succ_mul, Nat.add_comm]
  apply List.ext_getElem
  · simp [madeCells, hr]
  · intro i h1 h2
    rw [hr] at h2
    have h3 : i % sz < sz := Nat.mod_lt _ h0
    simp only [madeCells, Array.toList_map, Array.toList_range, List.map_map, List.getElem_map, List.getElem_range, Function.comp_apply]
    have e1 : c1 (z.cells[i % z.cells.size]!) = (f dv)[i % sz]'(by rw [hl]; exact h3) := by
      subst hz
      rw [getElem!_pos z.cells (i % z.cells.size) h3]
      simp only [← hd, List.getElem_map, Array.getElem_toList]
    rw [e1]
    clear h1 e1
    induction n generalizing i with
    | zero => omega
    | succ n ih =>
      simp only [List.replicate_succ, encL_cons]
      by_cases hi : i < sz
      · rw [List.getElem_append_left (by omega)]
        simp only [Nat.mod_eq_of_lt hi]
      · rw [List.getElem_append_right (by omega)]
        have hi' : i - sz < n * sz := by rw [Nat.succ_mul] at h2; omega
        have hm : (i - sz) % sz = i % sz := by
          conv => rhs; rw [show i = (i - sz) + sz by omega, Nat.add_mod_right]
        have := ih (i - sz) (by rw [hr]; exact hi') hi' (Nat.mod_lt _ h0)
        simp only [hm] at this
        rw [this]
        congr 1
        omega
/-- A slice is made. -/
theorem WO.mk {x y : Operand} {tx e sz by_ n : Nat} {k0 k1 : IntKind} {z : Value} {zc : List AV} [hT : SlT P tx e sz] [hZ : ZrT P e by_ z zc] [hW : Wid f sz] (dv : α) (hg : gg all (look env) g = some true) (hx : ov (look env) x = .sc (.int k0 n)) (hy : ov (look env) y = .sc (.int k1 n)) (hd : zc = f dv) (hb : n * by_ ≤ 140737488355328) (hm : n ≤ maxLen) (hn : nrE d env = true)
    (k : WO P X all l (look ((d, .ow e sz n (encL f (List.replicate n dv))) :: env)) R) : WO P X all (⟨some d, .makeSlice tx x y, ty, pos, af, g⟩ :: l) (look env) R := by
  have hz : z.cells.size = sz := by
    have := congrArg List.length (hZ.hc.trans hd)
    rw [hW.w] at this
    simpa using this
  have := QO.makeSlice (P := P) (σ := look env) tx e sz by_ x y k0 k1 n z hT.ht hT.hs hZ.hb hZ.hz hz hT.h0 hx hy hm hb hZ.h1
  rw [made_enc hz hT.h0 (hZ.hc.trans hd)] at this
  exact WO.q hg (.qo this) hn rfl k
/-- An empty slice. -/
theorem WO.build0 {tx e sz by_ : Nat} {z : Value} {zc : List AV} [hT : SlT P tx e sz] [hZ : ZrT P e by_ z zc] (hg : gg all (look env) g = some true) (hz : Nat.beq zc.length sz = true) (hn : nrE d env = true)
    (k : WO P X all l (look ((d, .ow e sz 0 []) :: env)) R) : WO P X all (⟨some d, .buildSlice tx 0 #[], ty, pos, af, g⟩ :: l) (look env) R := by
  refine WO.op (σ1 := put (look env) d (.ow e sz 0 [])) (gg_goes hg) (.buildS (us := []) rfl rfl hT.ht hT.hs hZ.hz (zr_size hZ hz) hT.h0 (by simp) hZ.h1 (.nil _) ?_) ?_
  · simp [fillA, madeCells]
  · rw [put_look hn rfl]; exact k
theorem hx_tk {n e sz : Nat} {cs : List AV} (ht : Nat.blt t HB = true) (hx : look env t = .ow e sz n cs) (hl : cs.length = n * sz) : TakeL (look env) [ov (look env) (.tmp t)] [.ow e sz n cs] (look ((t, .dead) :: env)) := by
  simp only [ov, ht, cond_true, hx, refT]
  have := TakeL.vw (σ := look env) (σ' := setS (look env) t [] .dead) (r := t) (n := n) (p := []) (e := e) (sz := sz) (m := n) (cs := cs) (as := []) (ts := []) (by simp [getN, hx]) (Nat.le_refl _) (.nil _)
  rw [List.take_of_length_le (by omega)] at this
  have e2 : setS (look env) t [] .dead = look ((t, .dead) :: env) := by rw [← look_upd]; rfl
  rwa [e2] at this
/-- Cells that are only read are put behind. -/
theorem WO.apI {x : Operand} {tx e sz by_ n m : Nat} {z : Value} {cs L zc : List AV} [hT : SlT P tx e sz] [hZ : ZrT P e by_ z zc] (hg : gg all (look env) g = some true) (ht : Nat.blt t HB = true) (hs : look env t = .ow e sz n cs) (hl : cs.length = n * sz) (hx : ov (look env) x = .im m L) (hL : L.length = m * sz) (hz : Nat.beq zc.length sz = true) (h63 : n + m ≤ maxLen) (hby : (n + m) * by_ ≤ 140737488355328) (hn : nrE d env = true)
    (k : WO P X all l (look ((d, .ow e sz (n + m) (cs ++ L)) :: (t, .dead) :: env)) R) : WO P X all (⟨some d, .call { callee := .builtin .append, args := #[.tmp t, x], argTypes := #[tx, tx] }, ty, pos, af, g⟩ :: l) (look env) R := by
  refine WO.op (σ1 := put (look ((t, .dead) :: env)) d (.ow e sz (n + m) (cs ++ L))) (gg_goes hg) (.appendC (z := z) rfl rfl hT.ht hT.hs hZ.hb hZ.hz (zr_size hZ hz) hT.h0 (hx_tk ht hs hl) (.ow n cs) (by rw [hx]; exact .im m L) hL h63 hby) ?_
  rw [put_look (by simp only [nrE, nrA, hn, Bool.and_self]) rfl]
  exact k
/-- A call whose arguments are plain. -/
theorem WO.call {fn : FuncId} {xs : Array Operand} {ts : Array TypeId} {args fin : List AV} {res : AV} (hg : gg all (look env) g = some true) (ha : xs.toList.map (ov (look env)) = args) (hp : args.all isPlA = true) (hf : Ev P X (.fn fn args res fin)) (hn : nrE d env = true) (hd : nrA d res = true)
    (k : WO P X all l (look ((d, res) :: env)) R) : WO P X all (⟨some d, .call { callee := .value (.func fn), args := xs, argTypes := ts }, ty, pos, af, g⟩ :: l) (look env) R :=
  WO.q hg (.qcall rfl (by rw [ha]; exact FrzL.plains hp) hf (.inr (by rw [ha]; exact hp))) hn hd k
/-- A call whose arguments are only read. -/
theorem WO.callF {fn : FuncId} {xs : Array Operand} {ts : Array TypeId} {args fin : List AV} {res : AV} (hg : gg all (look env) g = some true) (ha : FrzL (look env) (xs.toList.map (ov (look env))) args) (hf : Ev P X (.fn fn args res fin)) (hi : noIm res = true) (hn : nrE d env = true) (hd : nrA d res = true)
    (k : WO P X all l (look ((d, res) :: env)) R) : WO P X all (⟨some d, .call { callee := .value (.func fn), args := xs, argTypes := ts }, ty, pos, af, g⟩ :: l) (look env) R :=
  WO.q hg (.qcall rfl ha hf (.inl hi)) hn hd k
/-- A call that turns its first argument. -/
theorem WO.callM {fn : FuncId} {x0 : Operand} {xs : List Operand} {ts : Array TypeId} {e sz n r : Nat} {p : List Nat} {cs : List AV} {as fin : List AV} {t' res : AV} (hg : gg all (look env) g = some true) (hx : ov (look env) x0 = .vw r p 0 n) (hr : getN p (look env r) = some (.ow e sz n cs)) (hl : cs.length = n * sz) (ha : xs.map (ov (look env)) = as) (hp : as.all isPlA = true)
    (hf : Ev P X (.fn fn (.ow e sz n cs :: as) res (t' :: fin))) (hi : (noIm res && noIm t') = true) (hfl : fin.length = as.length) (hne : nbE r p.length env = true) (h1 : nbA r p.length (setN p (look env r) .dead) = true) (h2 : nbA r p.length (setN p (look env r) t') = true) (hd : nrE d ((r, setN p (look env r) t') :: (r, setN p (look env r) .dead) :: env) = true) (hdr : nrA d res = true)
    (k : WO P X all l (look ((d, res) :: (r, setN p (look env r) t') :: (r, setN p (look env r) .dead) :: env)) R) : WO P X all (⟨some d, .call { callee := .value (.func fn), args := (x0 :: xs).toArray, argTypes := ts }, ty, pos, af, g⟩ :: l) (look env) R := by
  let e1 : Env := (r, setN p (look env r) .dead) :: env
  have hlk : look e1 r = setN p (look env r) .dead := by simp [e1, look]
  have hrd : getN p (look e1 r) = some .dead := by rw [hlk]; exact getN_setN p hr
  have hT : TakeF (look env) [.vw r p 0 n] [.ow e sz n cs] (look e1) := by
    have := TakeF.vw (σ := look env) (σ' := setS (look env) r p .dead) (as := []) (ts := []) hr hl (.nil _)
    rwa [setS_look] at this
  have hro : ∀ (as : List AV) {σ' : Nat → AV}, as.all isPlA = true → PassL (look e1) σ' (List.replicate as.length false) as as σ' := by
    intro as
    induction as with
    | nil => intro σ' _; exact .nil _
    | cons a as ih =>
      intro σ' h
      simp only [List.all_cons, Bool.and_eq_true] at h
      exact .ro (FrzL.plains (by simp only [List.all_cons, h.1, List.all_nil, Bool.and_self])) (ih h.2)
  have hbk : ∀ (as bs : List AV) {σ' : Nat → AV}, bs.length = as.length → BackL σ' (List.replicate as.length false) as bs σ' := by
    intro as
    induction as with
    | nil => intro bs σ' h; cases bs with
      | nil => exact .nil _
      | cons b bs => simp at h
    | cons a as ih =>
      intro bs σ' h
      cases bs with
      | nil => simp at h
      | cons b bs => exact .skip (ih bs (by simpa using h))
  have hrl : ∀ (as : List AV), roPl (List.replicate as.length false) as = true ∨ True := fun _ => .inr trivial
  have hno : ∀ (k : Nat) (ts : List AV), owNo (List.replicate k false) ts = true := by
    intro k
    induction k with
    | zero => intro ts; cases ts <;> rfl
    | succ k ih => intro ts; cases ts with
      | nil => rfl
      | cons t ts => simp only [List.replicate_succ, owNo]; exact ih ts
  have hor : ∀ (k : Nat) (as : List AV), owRefs (List.replicate k false) as = [] := by
    intro k
    induction k with
    | zero => intro as; cases as <;> rfl
    | succ k ih => intro as; cases as with
      | nil => rfl
      | cons t ts => simp only [List.replicate_succ, owRefs]; exact ih ts
  simp only [Bool.and_eq_true] at hi
  have hset : setN p (look e1 r) t' = setN p (look env r) t' := by rw [hlk]; exact setN_setN p hr
  have hm : modS (look e1) r p (isU r p) t' = look ((r, setN p (look env r) t') :: e1) := by
    have := modS_lookU (r := r) (p := p) (e := e1) (x := t') (by simp only [e1, nbE, hne, h1, Bool.and_self]) (by rw [hset]; exact h2)
    rwa [hset] at this
  have hov : (x0 :: xs).toArray.toList.map (ov (look env)) = .vw r p 0 n :: as := by simp only [List.map_cons, hx, ha]
  refine WO.op (σ1 := putD (look ((r, setN p (look env r) t') :: e1)) (some d) res) (gg_goes hg) (.call (ms := true :: List.replicate as.length false) (σ1 := look e1) rfl ?_ hf (.inl ⟨hi.1, ?_⟩) ?_ ?_) ?_
  · rw [hov]; exact .own hT (hro as hp)
  · simp only [owNo, hi.2, hno, Bool.and_self]
  · rw [hov]; simp [owRefs, hor, refs, stab, isU]
  · rw [hov]; refine .vw hrd ?_; rw [hm]; exact hbk as fin hfl
  · simp only [putD]
    rw [put_look hd hdr]
    exact k
/-- A plain value is stored into a variable. -/
theorem WO.st {x y : Operand} {tx r i : Nat} {cs cs' : List AV} {v : Value} [hT : OnT P tx] (hg : gg all (look env) g = some true) (hx : ov (look env) x = .ad r [] i) (hy : ov (look env) y = .sc v) (hr : look env r = .op cs) (hi : Nat.blt i cs.length = true) (hne : nbE r 0 env = true) (hc : cs.set i (.sc v) = cs')
    (k : WO P X all l (look ((r, .op cs') :: env)) R) : WO P X all (⟨none, .store tx x y, ty, pos, af, g⟩ :: l) (look env) R := by
  subst hc
  exact WO.st1 (e := 0) (sz := 0) (n := 0) hg hx hy rfl (nd := .op cs) (by rw [← hr]; rfl) (.inr rfl) (Nat.le_of_ble_eq_true hi) (modS_look (p := []) hne rfl) k
theorem WO.stI {x y : Operand} {tx r i n : Nat} {cs cs' L : List AV} [hT : OnT P tx] (hg : gg all (look env) g = some true) (hx : ov (look env) x = .ad r [] i) (hy : ov (look env) y = .im n L) (hr : look env r = .op cs) (hi : Nat.blt i cs.length = true) (hne : nbE r 0 env = true) (hc : cs.set i (.im n L) = cs')
    (k : WO P X all l (look ((r, .op cs') :: env)) R) : WO P X all (⟨none, .store tx x y, ty, pos, af, g⟩ :: l) (look env) R := by
  subst hc
  exact WO.st1 (e := 0) (sz := 0) (n := 0) hg hx hy rfl (nd := .op cs) (by rw [← hr]; rfl) (.inr rfl) (Nat.le_of_ble_eq_true hi) (modS_look (p := []) hne rfl) k
/-- A plain value is stored into a cell of an element of a slice. -/
theorem WO.stE {x y : Operand} {tx r a i j e sz n : Nat} {xs : List α} {v : Value} [hT : OnT P tx] [hW : Wid f sz] (dv z : α) (hg : gg all (look env) g = some true) (hx : ov (look env) x = .ad r [] a) (ha : a = i * sz + j) (hj : j < sz) (hy : ov (look env) y = .sc v) (hr : look env r = .ow e sz n (encL f xs)) (hi : i < xs.length) (hne : nbE r 0 env = true) (hc : (f (xs.getD i dv)).set j (.sc v) = f z)
    (k : WO P X all l (look ((r, .ow e sz n (encL f (xs.set i z))) :: env)) R) : WO P X all (⟨none, .store tx x y, ty, pos, af, g⟩ :: l) (look env) R := by
  have hlt : a < (encL f xs).length := by
    rw [encL_length (sz := sz), ha]
    have : (i + 1) * sz ≤ xs.length * sz := Nat.mul_le_mul_right _ hi
    rw [Nat.succ_mul] at this; omega
  have h2 := encL_set (f := f) (sz := sz) hi hj dv hc
  subst ha
  rw [← h2] at k
  exact WO.st1 (e := e) (sz := sz) (n := n) hg hx hy rfl (nd := .ow e sz n (encL f xs)) (by rw [← hr]; rfl) (.inl ⟨_, _, _, rfl⟩) hlt (modS_look (p := []) hne rfl) k
theorem setL_encL {sz : Nat} [hW : Wid f sz] : ∀ {xs : List α} {i : Nat} {z : α} (hi : i < xs.length), setL (encL f xs) (i * sz) (f z) = encL f (xs.set i z)
  | x :: xs, i, z, hi => by
    have app : ∀ (L cs ds : List AV) (k : Nat), k = cs.length → ∀ m, L.length ≤ ds.length → setL (cs ++ ds) (k + m) L = cs ++ setL ds m L := by
      intro L
      induction L with
      | nil => intro cs ds k hk m h; rfl
      | cons c L ih =>
        intro cs ds k hk m h
        subst hk
        simp only [setL]
        rw [List.set_append_right _ _ (by omega), Nat.add_sub_cancel_left]
        have := ih cs (ds.set m c) cs.length rfl (m + 1) (by rw [List.length_set]; simp at h; omega)
        rw [Nat.add_assoc]; exact this
    have whole : ∀ (L ds es : List AV), L.length = ds.length → setL (ds ++ es) 0 L = L ++ es := by
      have gen : ∀ (L done ds es : List AV), L.length = ds.length → setL (done ++ (ds ++ es)) done.length L = done ++ (L ++ es) := by
        intro L
        induction L with
        | nil => intro done ds es h; cases ds with
          | nil => rfl
          | cons d ds => simp at h
        | cons c L ih =>
          intro done ds es h
          cases ds with
          | nil => simp at h
          | cons d ds =>
            simp only [setL]
            rw [List.set_append_right _ _ (Nat.le_refl _), Nat.sub_self]
            simp only [List.cons_append, List.set_cons_zero]
            have := ih (done ++ [c]) ds es (by simpa using h)
            simpa using this
      intro L ds es h
      exact gen L [] ds es h
    cases i with
    | zero =>
      rw [Nat.zero_mul, encL_cons, List.set_cons_zero, encL_cons]
      exact whole _ _ _ (by rw [hW.w, hW.w])
    | succ i =>
      have hi' : i < xs.length := by simpa using hi
      have e : (i + 1) * sz = (f x).length + i * sz := by rw [hW.w, Nat.succ_mul, Nat.add_comm]
      rw [encL_cons, e, app (f z) (f x) (encL f xs) _ rfl (i * sz) (by
        rw [hW.w, encL_length (sz := sz)]
        exact Nat.le_trans (by omega : sz ≤ 1 * sz) (Nat.mul_le_mul_right _ (by omega))), setL_encL hi', List.set_cons_succ, encL_cons]
/-- A whole element of a slice is stored: a struct of plain parts. -/
theorem WO.stEA {x y : Operand} {tx r a i e sz n : Nat} {xs : List α} [hT : AgT P tx sz] [hW : Wid f sz] (z : α) (hg : gg all (look env) g = some true) (hx : ov (look env) x = .ad r [] a) (ha : a = i * sz) (hy : ov (look env) y = .ag (f z)) (hp : (f z).all isPl = true) (hr : look env r = .ow e sz n (encL f xs)) (hi : i < xs.length) (hne : nbE r 0 env = true)
    (k : WO P X all l (look ((r, .ow e sz n (encL f (xs.set i z))) :: env)) R) : WO P X all (⟨none, .store tx x y, ty, pos, af, g⟩ :: l) (look env) R := by
  have hle : a + (f z).length ≤ (encL f xs).length := by
    rw [encL_length (sz := sz), hW.w, ha]
    have : (i + 1) * sz ≤ xs.length * sz := Nat.mul_le_mul_right _ hi
    rw [Nat.succ_mul] at this; omega
  obtain ⟨e', h1, h2⟩ := StoreL.root (r := r) (f z) (e := env) (i := a) hne hr (.inl ⟨_, _, _, rfl⟩) hle
  refine WO.op (σ1 := putD (look e') none .dead) (gg_goes hg) (.store (σ1 := look env) (vs := f z) (tr := .ag (f z)) rfl hx ?_ (by rw [hy]; exact .ag (TakeL.pls hp) (.nil _)) rfl (by rw [hW.w]; exact hT.hs) h1) ?_
  · simp only [nodeCells, getN, hr]; rfl
  · show WO P X all l (look e') R
    subst ha
    rw [h2, withKids, setL_encL hi]; exact k
/-- A cell of an element of a slice that is owned. -/
theorem WO.ldE {x : Operand} {tx r a i j e sz n : Nat} {xs : List α} {v : Value} [hT : OnT P tx] [hW : Wid f sz] (dv : α) (hg : gg all (look env) g = some true) (hx : ov (look env) x = .ad r [] a) (ha : a = i * sz + j) (hj : j < sz) (hr : look env r = .ow e sz n (encL f xs)) (hi : i < xs.length) (hc : (f (xs.getD i dv))[j]? = some (.sc v)) (hn : nrE d env = true)
    (k : WO P X all l (look ((d, .sc v) :: env)) R) : WO P X all (⟨some d, .load tx x, ty, pos, af, g⟩ :: l) (look env) R := by
  subst ha
  exact WO.ldO (cs := encL f xs) hg hx (by simp only [nodeCells, getN, hr]) (by rw [encL_get (sz := sz) hi hj dv, hc]) rfl hn k
/-- A whole element of a slice that is owned. -/
theorem WO.ldEA {x : Operand} {tx r a i e sz n : Nat} {xs : List α} [hT : AgT P tx sz] [hW : Wid f sz] [hP : Pl f] (dv : α) (hg : gg all (look env) g = some true) (hx : ov (look env) x = .ad r [] a) (ha : a = i * sz) (hr : look env r = .ow e sz n (encL f xs)) (hi : i < xs.length) (hn : nrE d env = true)
    (k : WO P X all l (look ((d, .ag (f (xs.getD i dv))) :: env)) R) : WO P X all (⟨some d, .load tx x, ty, pos, af, g⟩ :: l) (look env) R := by
  subst ha
  refine WO.ldOA (cs := encL f xs) hg hx (by simp only [nodeCells, getN, hr]) (L := f (xs.getD i dv)) ?_ (hW.w _) (hP.p _) hn k
  rw [encL_at (sz := sz) hi dv, List.take_left' (hW.w _)]
/-- A struct of plain parts is stored into a variable. -/
theorem WO.stA {x : Operand} {tx s r : Nat} {cs vs : List AV} [hT : AgT P tx s] (hg : gg all (look env) g = some true) (hx : ov (look env) x = .ad r [] 0) (ht : Nat.blt t HB = true) (hy : look env t = .ag vs) (hp : vs.all isPl = true) (hs : vs.length = s) (hr : look env r = .op cs) (hl : cs.length = s) (hne : nbE r 0 env = true)
    (k : WO P X all l (look ((r, .op vs) :: env)) R) : WO P X all (⟨none, .store tx x (.tmp t), ty, pos, af, g⟩ :: l) (look env) R := by
  subst hs
  obtain ⟨e', h1, h2⟩ := StoreL.root (r := r) vs (e := env) (i := 0) hne hr (.inr rfl) (by omega)
  refine WO.op (σ1 := putD (look e') none .dead) (gg_goes hg) (.store (σ1 := look env) (vs := vs) (tr := .ag vs) rfl hx ?_ (by simp only [ov, ht, cond_true, hy, refT, refL_pl hp]; exact .ag (TakeL.pls hp) (.nil _)) rfl hT.hs h1) ?_
  · simp only [nodeCells, getN, hr]; rfl
  · show WO P X all l (look e') R
    have gen : ∀ (L done ds : List AV), L.length = ds.length → setL (done ++ ds) done.length L = done ++ L := by
      intro L
      induction L with
      | nil => intro done ds h; cases ds with
        | nil => rfl
        | cons d ds => simp at h
      | cons c L ih =>
        intro done ds h
        cases ds with
        | nil => simp at h
        | cons d ds =>
          simp only [setL]
          rw [List.set_append_right _ _ (Nat.le_refl _), Nat.sub_self, List.set_cons_zero]
          have := ih (done ++ [c]) ds (by simpa using h)
          simpa using this
    have h3 := gen vs [] cs hl.symm
    simp only [List.nil_append, List.length_nil] at h3
    rw [h2, withKids, h3]; exact k
end

/-! Loops. -/
section
variable {P : Program} {X : FuncId → List AV → AV → List AV → Prop} {Q : Ex → (Nat → AV) → Prop}
def lpK0 {S : Type} (ev : S → Env) (I : S → Prop) (ms : S → Nat) (s : S) (Q : Ex → (Nat → AV) → Prop) : Ex → (Nat → AV) → Prop
  | .normal, σ => ∃ s', Drop σ (look (ev s')) ∧ I s' ∧ ms s' < ms s
  | e, σ => Q e σ
structure lpK {S : Type} (ev : S → Env) (I : S → Prop) (ms : S → Nat) (s : S) (Q : Ex → (Nat → AV) → Prop) (e : Ex) (σ : Nat → AV) : Prop where
  wr ::
  out : lpK0 ev I ms s Q e σ
theorem lpK.mk {S : Type} {ev : S → Env} {I : S → Prop} {ms : S → Nat} {s : S} {env : Env} (s' : S) (hk : Keep (look env) (ev s')) (hi : I s') (hm : ms s' < ms s) : lpK ev I ms s Q .normal (look env) := ⟨⟨s', hk.drop, hi, hm⟩⟩
theorem lpK.exit {S : Type} {ev : S → Env} {I : S → Prop} {ms : S → Nat} {s : S} {σ : Nat → AV} {id : Nat} (h : Q (.exit id) σ) : lpK ev I ms s Q (.exit id) σ := ⟨h⟩
theorem lpK.ret {S : Type} {ev : S → Env} {I : S → Prop} {ms : S → Nat} {s : S} {σ : Nat → AV} (h : Q .ret σ) : lpK ev I ms s Q .ret σ := ⟨h⟩
theorem WC.loopS {S : Type} (ev : S → Env) (I : S → Prop) (ms : S → Nat) (s0 : S) {env : Env} {a : Code} (h0 : Keep (look env) (ev s0)) (hI : I s0) (h : ∀ s, I s → WC P X a (look (ev s)) (lpK ev I ms s Q)) : WC P X (.loop a) (look env) Q := by
  refine WC.drop h0.drop ?_
  have : ∀ (n : Nat) (s : S), ms s < n → I s → WC P X (.loop a) (look (ev s)) Q := by
    intro n
    induction n with
    | zero => intro s hs; omega
    | succ n ih =>
      intro s hs hi
      obtain ⟨ex, σ', h1, h2⟩ := h s hi
      cases ex with
      | normal =>
        obtain ⟨s', hd, hi', hm⟩ := h2.out
        obtain ⟨ex2, σ2, h3, h4⟩ := WC.drop (P := P) (X := X) hd (ih s' (by omega) hi')
        exact ⟨ex2, σ2, .loopN h1 h3, h4⟩
      | exit id => exact ⟨_, σ', .loopX h1 (by simp), h2.out⟩
      | ret => exact ⟨_, σ', .loopX h1 (by simp), h2.out⟩
  exact this _ s0 (Nat.lt_succ_self _) hI
theorem WC.condT {c : Operand} {a b : Code} {σ : Nat → AV} (hc : ov σ c = .sc (.bool true)) (h : WC P X a σ Q) : WC P X (.cond c a b) σ Q := WC.cond hc (fun _ => h) (fun h => by simp at h)
theorem WC.condF {c : Operand} {a b : Code} {σ : Nat → AV} (hc : ov σ c = .sc (.bool false)) (h : WC P X b σ Q) : WC P X (.cond c a b) σ Q := WC.cond hc (fun h => by simp at h) (fun _ => h)
end
end Go.Eng
/- The engine, part T: the script that takes the plain steps; what is handed back. -/
namespace Go.Eng
open Go Go.RowKit
set_option linter.unusedVariables false
set_option linter.unusedSimpArgs false

section
variable {P : Program} {X : FuncId → List AV → AV → List AV → Prop} {rs : List ResultVar} {env : Env} {a res : AV} {fin : List AV} {n t : Nat} {ex : Ex}
/-- A plain value is handed back. -/
theorem retP (hx : ov (look env) (.tmp t) = a) (hp : isPl a = true) (hr : a = res) (hf : fins n (look env) = fin) (hn : fin.all noRf = true) (he : ex = .normal ∨ ex = .ret := by simp) :
    (ex = .normal ∨ ex = .ret) ∧ ∃ as rs σ2, ResL P (look env) [.tmp t] as ∧ TakeL (look env) as rs σ2 ∧ resOf rs = res ∧ fins n σ2 = fin ∧ fin.all noRf = true := by
  subst hr
  exact ⟨he, _, _, look env, .tmp t .nil, .plain (by rw [hx]; exact hp) (.nil _), (by show ov (look env) (.tmp t) = a; exact hx), hf, hn⟩
theorem retV {v : Value} (hx : ov (look env) (.tmp t) = .sc v) (hr : .sc v = res) (hf : fins n (look env) = fin) (hn : fin.all noRf = true) (he : ex = .normal ∨ ex = .ret := by simp) :
    (ex = .normal ∨ ex = .ret) ∧ ∃ as rs σ2, ResL P (look env) [.tmp t] as ∧ TakeL (look env) as rs σ2 ∧ resOf rs = res ∧ fins n σ2 = fin ∧ fin.all noRf = true :=
  retP hx rfl hr hf hn he
/-- A slice that is owned is handed back. -/
theorem retO {e sz m r : Nat} {cs : List AV} (hx : ov (look env) (.tmp t) = .vw r [] 0 m) (hr : look env r = .ow e sz m cs) (hl : cs.length = m * sz) (hres : .ow e sz m cs = res) (hf : fins n (look ((r, .dead) :: env)) = fin) (hn : fin.all noRf = true) (he : ex = .normal ∨ ex = .ret := by simp) :
    (ex = .normal ∨ ex = .ret) ∧ ∃ as rs σ2, ResL P (look env) [.tmp t] as ∧ TakeL (look env) as rs σ2 ∧ resOf rs = res ∧ fins n σ2 = fin ∧ fin.all noRf = true := by
  subst hres
  refine ⟨he, _, [.ow e sz m cs], look ((r, .dead) :: env), .tmp t .nil, ?_, rfl, hf, hn⟩
  rw [hx]
  have := TakeL.vw (σ := look env) (σ' := setS (look env) r [] .dead) (r := r) (n := m) (p := []) (e := e) (sz := sz) (m := m) (cs := cs) (as := []) (ts := []) (by simp [getN, hr]) (Nat.le_refl _) (.nil _)
  rw [List.take_of_length_le (by omega)] at this
  have e2 : setS (look env) r [] .dead = look ((r, .dead) :: env) := by rw [← look_upd]; rfl
  rwa [e2] at this
/-- A struct of plain parts, out of a variable. -/
theorem retC {ty s : Nat} {cs : List AV} [hT : AgT P ty s] (ht : Nat.blt t HB = true) (hx : look env t = .op cs) (hl : cs.length = s) (hp : cs.all isPl = true) (hr : .ag cs = res) (hf : fins n (look env) = fin) (hn : fin.all noRf = true) (he : ex = .normal ∨ ex = .ret := by simp) :
    (ex = .normal ∨ ex = .ret) ∧ ∃ as rs σ2, ResL P (look env) [.cell t ty] as ∧ TakeL (look env) as rs σ2 ∧ resOf rs = res ∧ fins n σ2 = fin ∧ fin.all noRf = true := by
  subst hr
  refine ⟨he, _, _, look env, .cell t ty (.many cs s hT.ht hT.hs hl hT.h0 fun k hk => ?_) .nil, .ag (TakeL.pls hp) (.nil _), rfl, hf, hn⟩
  have hk' : k < cs.length := by omega
  simp only [ov, ht, cond_true, hx, refT, cell, nodeCells, getN, Option.bind_some, Nat.zero_add]
  rw [List.getElem?_eq_getElem hk', Option.map_some, refT_pl (List.all_eq_true.1 hp _ (List.getElem_mem _))]
end
end Go.Eng
/- The engine, part U: regions whose order is drawn, in the form in which they are used. -/
namespace Go.Eng
open Go Go.RowKit
set_option linter.unusedVariables false
set_option linter.unusedSimpArgs false

/-- Is a number in a list? -/
def memN (r : Nat) : List Nat → Bool
  | [] => false
  | x :: l => bif Nat.beq x r then true else memN r l
theorem memN_eq (r : Nat) : ∀ (l : List Nat), memN r l = l.contains r
  | [] => rfl
  | x :: l => by
    simp only [memN, List.contains_cons]
    cases h : Nat.beq x r
    · have : (r == x) = false := by
        rw [Bool.eq_false_iff]; intro hb; rw [eq_of_beq hb] at h; simp at h
      rw [this, Bool.false_or, cond_false, memN_eq r l]
    · have := Nat.eq_of_beq_eq_true h
      subst this; simp
/-- The registers that are not hidden. -/
def deE (H : List Nat) : Env → Env
  | [] => []
  | (r, a) :: e => bif memN r H then deE H e else (r, a) :: deE H e
theorem deE_mask {H : List Nat} : ∀ (e : Env), maskR H (look e) = look (deE H e)
  | [] => by funext t; simp only [maskR, look, deE]; split <;> rfl
  | (r, a) :: e => by
    funext t
    have ih := congrFun (deE_mask (H := H) e) t
    simp only [maskR, look, deE, memN_eq] at ih ⊢
    cases hc : H.contains r
    · simp only [cond_false, look]
      cases hb : Nat.beq r t
      · simp only [cond_false]; exact ih
      · simp only [cond_true]
        rw [← Nat.eq_of_beq_eq_true hb, hc]; simp
    · simp only [cond_true]
      cases hb : Nat.beq r t
      · simp only [cond_false]; exact ih
      · simp only [cond_true]
        rw [Nat.eq_of_beq_eq_true hb] at hc
        rw [hc] at ih ⊢
        simpa using ih
theorem deE_drop {H : List Nat} (e : Env) : Drop (look e) (look (deE H e)) := by
  rw [← deE_mask]
  intro t
  simp only [maskR]
  split
  · exact .inl rfl
  · exact .inr rfl
/-- What is told of a drawn region: who stands ahead, what is quiet, what the others turn, the registers that it fills, the order, and of each operation what is hidden from it. -/
structure RI where
  anc : List (List Nat)
  quiet : List Nat
  gen : List (Nat × List Nat)
  ds : List Nat
  ord : List Nat
  tab : List (List Nat × List Nat × Bool)
def riOk (all : Array Oper) (ri : RI) : Bool :=
  drawOk all ri.anc ri.quiet ri.gen && (decide (ri.ord = List.range all.size) && decide (ri.tab = (List.range all.size).map fun i => (hides all ri.anc i, hidesG all ri.anc ri.gen i, gmix all ri.anc ri.gen i)))
section
variable (P : Program) (X : FuncId → List AV → AV → List AV → Prop)
structure WD (all : Array Oper) (ri : RI) (l : List Nat) (σ : Nat → AV) (Q : (Nat → AV) → Prop) : Prop where
  out : riOk all ri = true → ∃ σ', Ev P X (.drawn all ri.anc ri.quiet ri.gen l σ σ') ∧ Q σ'
/-- One step beside the others: what it puts. -/
structure WK (E : Env) (pre : Env) (σ : Nat → AV) : Prop where
  out : σ = look (pre ++ E)
end
/-- Some registers are put. -/
inductive Pre : Env → Env → Env → Prop
  | nil (E : Env) : Pre [] E E
  | cons (x : Nat × AV) {p E e : Env} (h : Pre p E e) : Pre (x :: p) E (x :: e)
theorem Pre.eq {p E e : Env} (h : Pre p E e) : e = p ++ E := by
  induction h with
  | nil E => rfl
  | cons x h ih => rw [ih]; rfl
theorem WK.mk' {E pre e : Env} (h : Pre pre E e) : WK E pre (look e) := ⟨by rw [h.eq]⟩
mutual
def okA (bad : Nat → List Nat → Bool) : AV → Bool
  | .vw r p _ _ => !(bad r p)
  | .ad r p _ => !(bad r p)
  | .ag cs => okL bad cs
  | .tu cs => okL bad cs
  | _ => true
def okL (bad : Nat → List Nat → Bool) : List AV → Bool
  | [] => true
  | c :: cs => okA bad c && okL bad cs
end
mutual
theorem okA_mask {bad : Nat → List Nat → Bool} : ∀ (a : AV), okA bad a = true → mask bad a = a
  | .sc _, _ => rfl
  | .nl, _ => rfl
  | .im .., _ => rfl
  | .ow .., _ => rfl
  | .ip _, _ => rfl
  | .op _, _ => rfl
  | .dead, _ => rfl
  | .vw r p off n, e => by simp only [okA, Bool.not_eq_true'] at e; simp only [mask, e, cond_false]
  | .ad r p i, e => by simp only [okA, Bool.not_eq_true'] at e; simp only [mask, e, cond_false]
  | .ag cs, e => by simp only [okA] at e; simp only [mask, okL_mask cs e]
  | .tu cs, e => by simp only [okA] at e; simp only [mask, okL_mask cs e]
theorem okL_mask {bad : Nat → List Nat → Bool} : ∀ (cs : List AV), okL bad cs = true → maskL bad cs = cs
  | [], _ => rfl
  | c :: cs, e => by
    simp only [okL, Bool.and_eq_true] at e
    simp only [maskL, okA_mask c e.1, okL_mask cs e.2]
end
/-- What registers may refer to beside a step that turns something. -/
def chkE (D H : List Nat) : Env → Bool
  | [] => true
  | (r, a) :: e => (bif H.contains r then okA (badC D H) a else okA (badE H) a) && chkE D H e
theorem chkE_ok {D H : List Nat} : ∀ (e : Env), chkE D H e = true → ∀ t, (H.contains t = true → mask (badC D H) (look e t) = look e t) ∧ (H.contains t = false → mask (badE H) (look e t) = look e t)
  | [], _, t => ⟨fun _ => rfl, fun _ => rfl⟩
  | (r, a) :: e, h, t => by
    simp only [chkE, Bool.and_eq_true] at h
    simp only [look]
    cases hb : Nat.beq r t
    · simp only [cond_false]; exact chkE_ok e h.2 t
    · simp only [cond_true]
      rw [Nat.eq_of_beq_eq_true hb] at h
      refine ⟨fun ht => ?_, fun ht => ?_⟩
      · have := h.1; rw [ht] at this; exact okA_mask a this
      · have := h.1; rw [ht] at this; exact okA_mask a this
def deadD (env : Env) : List Nat → Prop
  | [] => True
  | d :: ds => look env d = .dead ∧ deadD env ds
theorem deadD_mem {env : Env} : ∀ {ds : List Nat}, deadD env ds → ∀ d ∈ ds, look env d = .dead
  | d :: ds, h, x, hx => by
    rcases List.mem_cons.1 hx with rfl | hx
    · exact h.1
    · exact deadD_mem h.2 x hx
theorem look_app_out {p E : Env} {t : Nat} (h : p.all (fun x => !(Nat.beq x.1 t)) = true) : look (p ++ E) t = look E t := by
  induction p with
  | nil => rfl
  | cons x p ih =>
    simp only [List.all_cons, Bool.and_eq_true, Bool.not_eq_true'] at h
    simp only [List.cons_append, look, h.1, cond_false]
    exact ih h.2
theorem look_app_in {E E' : Env} {t : Nat} : ∀ {p : Env}, p.any (fun x => Nat.beq x.1 t) = true → look (p ++ E) t = look (p ++ E') t
  | [], h => by simp at h
  | x :: p, h => by
    simp only [List.any_cons, Bool.or_eq_true] at h
    simp only [List.cons_append, look]
    cases hb : Nat.beq x.1 t
    · simp only [cond_false]
      exact look_app_in (h.resolve_left (by rw [hb]; simp))
    · simp only [cond_true]
section
variable {P : Program} {X : FuncId → List AV → AV → List AV → Prop} {all : Array Oper} {ri : RI} {l : List Nat} {R : (Nat → AV) → Prop} {Q : Ex → (Nat → AV) → Prop}
variable {g : Option (Nat × Bool)} {env : Env} {d t i : Nat} {ty : TypeId} {pos : String} {af : Array Edge} {α : Type} {f : α → List AV} {op : Op} {av : AV}
theorem riOk_tab {i : Nat} {HD H : List Nat} {gm : Bool} (h : riOk all ri = true) (ht : ri.tab[i]? = some (HD, H, gm)) : hides all ri.anc i = HD ∧ hidesG all ri.anc ri.gen i = H ∧ gmix all ri.anc ri.gen i = gm := by
  unfold riOk at h
  simp only [Bool.and_eq_true, decide_eq_true_eq] at h
  obtain ⟨-, -, h⟩ := h
  rw [h, List.getElem?_map, Option.map_eq_some_iff] at ht
  obtain ⟨j, hj, he⟩ := ht
  have : j = i := by
    have := (List.getElem?_eq_some_iff.1 hj)
    obtain ⟨hlt, he⟩ := this
    simpa using he.symm
  subst this
  simp only [Prod.mk.injEq] at he
  exact he
/-- A region that is drawn: what it writes is dropped ahead. -/
theorem WC.regionDd {id : Nat} (ri : RI) (ho : riOk all ri = true) (k : WD P X all ri ri.ord (look (deE ri.ds env)) (Q .normal)) : WC P X (.region id all true) (look env) Q := by
  obtain ⟨σ', h1, h2⟩ := k.out ho
  have ho' := ho
  unfold riOk at ho'
  simp only [Bool.and_eq_true, decide_eq_true_eq] at ho'
  obtain ⟨h3, h4, -⟩ := ho'
  rw [h4] at h1
  exact WC.drop (deE_drop (H := ri.ds) env) ⟨.normal, σ', .regionD h3 h1, h2⟩
/-- Nothing is there yet of what it writes. -/
def freshE (ds : List Nat) : Env → Bool
  | [] => true
  | (r, _) :: e => !(ds.contains r) && freshE ds e
theorem freshE_ok {ds : List Nat} : ∀ (e : Env), freshE ds e = true → deE ds e = e
  | [], _ => rfl
  | (r, a) :: e, h => by
    simp only [freshE, Bool.and_eq_true, Bool.not_eq_true'] at h
    simp only [deE, memN_eq, h.1, cond_false, freshE_ok e h.2]
theorem WC.regionD {id : Nat} (ri : RI) (ho : riOk all ri = true) (hf : freshE ri.ds env = true) (k : WD P X all ri ri.ord (look env) (Q .normal)) : WC P X (.region id all true) (look env) Q :=
  WC.regionDd ri ho (by rw [freshE_ok env hf]; exact k)
/-- What comes behind a quiet step. -/
structure WDn (P : Program) (X : FuncId → List AV → AV → List AV → Prop) (all : Array Oper) (ri : RI) (l : List Nat) (R : (Nat → AV) → Prop) (d : Nat) (HD H : List Nat) (gm : Bool) (env : Env) (av : AV) : Prop where
  h1 : look env d = .dead
  h2 : nrE d env = true
  h3 : okA (badD d HD H gm []) av = true
  k : WD P X all ri l (look ((d, av) :: env)) R
theorem WD.nil (h : R (look env)) : WD P X all ri [] (look env) R := ⟨fun _ => ⟨_, .drNil _ _ _ _ _, h⟩⟩
theorem WD.q {HD H : List Nat} {gm : Bool} (hi : all[i]? = some ⟨some d, op, ty, pos, af, g⟩) (hq : ri.quiet.contains i = true) (hq2 : gTn ri.gen i = none) (ht : ri.tab[i]? = some (HD, H, gm)) (hg : gg all (look (deE H env)) g = some true) (h : Ev P X (.qe ⟨some d, op, ty, pos, af, g⟩ (look (deE H env)) av)) (h1 : look env d = .dead) (h2 : nrE d env = true) (h3 : okA (badD d HD H gm []) av = true)
    (k : WD P X all ri l (look ((d, av) :: env)) R) : WD P X all ri (i :: l) (look env) R := by
  refine ⟨fun ho => ?_⟩
  obtain ⟨σ', k1, k2⟩ := k.out ho
  obtain ⟨e1, e2, e3⟩ := riOk_tab ho ht
  refine ⟨σ', .drQuiet hi hq hq2 rfl (gg_goes (by rw [e2, deE_mask]; exact hg)) (by rw [e2, deE_mask]; exact h) h1 (nrE_mask env h2) (by rw [e1, e2, e3]; exact okA_mask av h3) ?_, k2⟩
  rw [look_upd]; exact k1
theorem WD.q2 {HD H : List Nat} {gm : Bool} (hi : all[i]? = some ⟨some d, op, ty, pos, af, g⟩) (hq : ri.quiet.contains i = true) (hq2 : gTn ri.gen i = none) (ht : ri.tab[i]? = some (HD, H, gm)) (hg : gg all (look (deE H env)) g = some true) (h : Ev P X (.qe ⟨some d, op, ty, pos, af, g⟩ (look (deE H env)) av))
    (k : WDn P X all ri l R d HD H gm env av) : WD P X all ri (i :: l) (look env) R := WD.q hi hq hq2 ht hg h k.h1 k.h2 k.h3 k.k
theorem WD.skip {HD H : List Nat} {gm : Bool} (hi : all[i]? = some ⟨some d, op, ty, pos, af, g⟩) (hq : ri.quiet.contains i = true) (hq2 : gTn ri.gen i = none) (ht : ri.tab[i]? = some (HD, H, gm)) (hg : gg all (look (deE H env)) g = some false) (h1 : look env d = .dead) (h2 : nrE d env = true)
    (k : WD P X all ri l (look ((d, .tu []) :: env)) R) : WD P X all ri (i :: l) (look env) R := by
  refine ⟨fun ho => ?_⟩
  obtain ⟨σ', k1, k2⟩ := k.out ho
  obtain ⟨e1, e2, e3⟩ := riOk_tab ho ht
  refine ⟨σ', .drSkip hi hq hq2 rfl (gg_goes (by rw [e2, deE_mask]; exact hg)) h1 (nrE_mask env h2) ?_, k2⟩
  rw [look_upd]; exact k1
/-- One that is ordered against all others. -/
structure WDK (P : Program) (X : FuncId → List AV → AV → List AV → Prop) (all : Array Oper) (ri : RI) (l : List Nat) (Q : (Nat → AV) → Prop) (σ : Nat → AV) : Prop where
  out : WD P X all ri l σ Q
theorem WD.mut {o : Oper} (hi : all[i]? = some o) (hq : ri.quiet.contains i = false) (hq2 : gTn ri.gen i = none) (h : WO P X all [o] (look env) (WDK P X all ri l R)) : WD P X all ri (i :: l) (look env) R := by
  refine ⟨fun ho => ?_⟩
  obtain ⟨σ1, h1, h2⟩ := h
  obtain ⟨σ', k1, k2⟩ := h2.out.out ho
  exact ⟨σ', .drMut hi hq hq2 h1 k1, k2⟩
/-- One that turns something, beside others. -/
theorem WD.gen {o : Oper} {HD H D T : List Nat} {gm : Bool} (pre : Env) {env2 : Env} (hi : all[i]? = some o) (hq : ri.quiet.contains i = false) (hT : gTn ri.gen i = some T) (ht : ri.tab[i]? = some (HD, H, gm)) (hD : o.dst.toList = D) (h : WO P X all [o] (look (deE H env)) (WK (deE H env) pre))
    (h1 : pre.all (fun x => (D ++ T).contains x.1) = true) (h2 : (D ++ T).all (fun t => pre.any (fun x => Nat.beq x.1 t)) = true)
    (h3 : D.all (fun d => nrE d env && okA (badD d HD H gm T) (look pre d)) = true) (h3' : deadD env D) (h4 : T.all (fun t => noRf (look env t) && noRf (look pre t)) = true) (h5 : chkE D H env = true) (he : Pre pre env env2)
    (k : WD P X all ri l (look env2) R) : WD P X all ri (i :: l) (look env) R := by
  refine ⟨fun ho => ?_⟩
  obtain ⟨σ', k1, k2⟩ := k.out ho
  obtain ⟨e1, e2, e3⟩ := riOk_tab ho ht
  obtain ⟨τ, t1, t2⟩ := h
  have t2 := t2.out
  subst t2
  subst hD
  have hin : ∀ t, (o.dst.toList ++ T).contains t = true → look (pre ++ deE H env) t = look pre t := fun t ht => by
    have hany := List.all_eq_true.1 h2 t (List.contains_iff_mem.1 ht)
    have := look_app_in (E := deE H env) (E' := []) hany
    rwa [List.append_nil] at this
  refine ⟨σ', .drGen hi hq hT (by rw [e2, deE_mask]; exact t1) (fun t ht => ?_) (fun d hd => ?_) (fun t ht => ?_) ?_ ?_, k2⟩
  · rw [e2, deE_mask]
    refine look_app_out (List.all_eq_true.2 fun x hx => ?_)
    have hx := List.all_eq_true.1 h1 x hx
    cases hb : Nat.beq x.1 t
    · rfl
    · rw [Nat.eq_of_beq_eq_true hb, ht] at hx; cases hx
  · have hm : d ∈ o.dst.toList := by rw [hd]; simp
    have := List.all_eq_true.1 h3 d hm
    rw [Bool.and_eq_true] at this
    rw [hin d (by rw [List.contains_iff_mem]; exact List.mem_append_left _ hm), e1, e2, e3]
    exact ⟨deadD_mem h3' d hm, nrE_mask env this.1, okA_mask _ this.2⟩
  · have := List.all_eq_true.1 h4 t ht
    rw [Bool.and_eq_true] at this
    rw [hin t (by rw [List.contains_iff_mem]; exact List.mem_append_right _ ht)]
    exact this
  · rw [e2]; exact chkE_ok env h5
  · have : over (o.dst.toList ++ T) (look (pre ++ deE H env)) (look env) = look env2 := by
      rw [he.eq]
      funext t
      cases ht : (o.dst.toList ++ T).contains t
      · rw [over_out ht]
        refine (look_app_out (List.all_eq_true.2 fun x hx => ?_)).symm
        have hx := List.all_eq_true.1 h1 x hx
        cases hb : Nat.beq x.1 t
        · rfl
        · rw [Nat.eq_of_beq_eq_true hb, ht] at hx; cases hx
      · rw [over_in ht]
        exact look_app_in (List.all_eq_true.1 h2 t (List.contains_iff_mem.1 ht))
    rw [this]; exact k1

/-! Slices within a slice. -/
theorem look_dup {r : Nat} {a b : AV} {e : Env} : look ((r, a) :: (r, b) :: e) = look ((r, a) :: e) := by
  funext t
  simp only [look]
  cases Nat.beq r t <;> rfl
theorem look_dup2 {r d : Nat} {a b c : AV} {e : Env} : look ((d, c) :: (r, a) :: (r, b) :: e) = look ((d, c) :: (r, a) :: e) := by
  have h := look_dup (r := r) (a := a) (b := b) (e := e)
  funext t
  have := congrFun h t
  simp only [look] at this ⊢
  cases Nat.beq d t
  · simp only [cond_false]; exact this
  · rfl
section
variable {l : List Oper}
/-- A slice within a slice that a register owns is loaded. -/
theorem WO.ldEO {x : Operand} {tx r a i e e2 s2 n : Nat} {rows : List (List α)} [hT : OnT P tx] (hg : gg all (look env) g = some true) (hx : ov (look env) x = .ad r [] a) (ha : a = i) (hr : look env r = .ow e 1 n (encL (eO e2 s2 f) rows)) (hi : i < rows.length) (hrd : Nat.beq r d = false) (hn : nrE d env = true)
    (k : WO P X all l (look ((d, .vw r [i] 0 (rows.getD i []).length) :: env)) R) : WO P X all (⟨some d, .load tx x, ty, pos, af, g⟩ :: l) (look env) R := by
  subst ha
  refine WO.ldOw (cs := encL (eO e2 s2 f) rows) (cs' := encL f (rows.getD a [])) (e := e2) (sz := s2) hg hx (by simp only [nodeCells, getN, hr]) ?_ hrd hn k
  have := encL_get (f := eO e2 s2 f) (sz := 1) (j := 0) hi (by omega) []
  rw [Nat.mul_one, Nat.add_zero] at this
  rw [this]; rfl
/-- A call that turns a slice within a slice. -/
theorem WO.callE {fn : FuncId} {x0 : Operand} {xs : List Operand} {ts : Array TypeId} {r i e e2 s2 n m : Nat} {rows : List (List α)} {row : List α} {as fin : List AV} {res : AV} [hW : Wid f s2] (hg : gg all (look env) g = some true) (hx : ov (look env) x0 = .vw r [i] 0 m) (hm : m = (rows.getD i []).length) (hr : look env r = .ow e 1 n (encL (eO e2 s2 f) rows)) (hi : i < rows.length) (ha : xs.map (ov (look env)) = as) (hp : as.all isPlA = true)
    (hf : Ev P X (.fn fn (.ow e2 s2 m (encL f (rows.getD i [])) :: as) res (.ow e2 s2 m (encL f row) :: fin))) (hml : row.length = m) (hi2 : noIm res = true) (hnr : noIm (.ow e2 s2 m (encL f row)) = true) (hfl : fin.length = as.length) (hne : nbE r 1 env = true) (hd : nrE d env = true) (hdr : nrA d res = true)
    (k : WO P X all l (look ((d, res) :: (r, .ow e 1 n (encL (eO e2 s2 f) (rows.set i row))) :: env)) R) : WO P X all (⟨some d, .call { callee := .value (.func fn), args := (x0 :: xs).toArray, argTypes := ts }, ty, pos, af, g⟩ :: l) (look env) R := by
  subst hm
  have hget : (encL (eO e2 s2 f) rows)[i]? = some (.ow e2 s2 (rows.getD i []).length (encL f (rows.getD i []))) := by
    have := encL_get (f := eO e2 s2 f) (sz := 1) (j := 0) hi (by omega) []
    rw [Nat.mul_one, Nat.add_zero] at this
    rw [this]; rfl
  have hset : ∀ v, setN [i] (look env r) v = .ow e 1 n ((encL (eO e2 s2 f) rows).set i v) := by
    intro v; simp only [setN, hr, kids, hget, withKids]
  have hrow : (encL (eO e2 s2 f) rows).set i (.ow e2 s2 (rows.getD i []).length (encL f row)) = encL (eO e2 s2 f) (rows.set i row) := by
    have := encL_set (f := eO e2 s2 f) (sz := 1) (j := 0) (c := .ow e2 s2 (rows.getD i []).length (encL f row)) (y := row) hi (by omega) [] (by simp only [eO, List.set_cons_zero, hml])
    rw [Nat.mul_one, Nat.add_zero] at this
    exact this
  refine WO.callM (p := [i]) hg hx (by simp only [getN, hr, kids, Option.bind_some, hget]) (encL_length _) ha hp hf (by simp only [hi2, hnr, Bool.and_self]) hfl hne (by rw [hset]; rfl) (by rw [hset]; rfl) (by rw [hset, hset]; simp only [nrE, nrA, hd, Bool.and_self]) hdr ?_
  rw [hset, hset, hrow, look_dup2]
  exact k
/-- A call that turns a slice that a register owns. -/
theorem WO.callR {fn : FuncId} {x0 : Operand} {xs : List Operand} {ts : Array TypeId} {r e sz n : Nat} {cs cs' : List AV} {as fin : List AV} {res : AV} (hg : gg all (look env) g = some true) (hx : ov (look env) x0 = .vw r [] 0 n) (hr : look env r = .ow e sz n cs) (hl : cs.length = n * sz) (ha : xs.map (ov (look env)) = as) (hp : as.all isPlA = true)
    (hf : Ev P X (.fn fn (.ow e sz n cs :: as) res (.ow e sz n cs' :: fin))) (hi2 : noIm res = true) (hnr : noIm (.ow e sz n cs') = true) (hfl : fin.length = as.length) (hne : nbE r 0 env = true) (hd : nrE d env = true) (hdr : nrA d res = true)
    (k : WO P X all l (look ((d, res) :: (r, .ow e sz n cs') :: env)) R) : WO P X all (⟨some d, .call { callee := .value (.func fn), args := (x0 :: xs).toArray, argTypes := ts }, ty, pos, af, g⟩ :: l) (look env) R := by
  refine WO.callM (p := []) hg hx (by simp only [getN, hr]) hl ha hp hf (by simp only [hi2, hnr, Bool.and_self]) hfl hne rfl rfl (by simp only [setN, nrE, nrA, hd, Bool.and_self]) hdr ?_
  simp only [setN]
  rw [look_dup2]
  exact k
end
/-- A slice of plain parts is built. -/
theorem WO.bs {l : List Oper} {tx e sz by_ n : Nat} {z : Value} {zc us cs : List AV} {parts : Array (Nat × Operand)} [hT : SlT P tx e sz] [hZ : ZrT P e by_ z zc] (hg : gg all (look env) g = some true) (hu : (parts.toList.map fun x => ov (look env) x.2) = us) (hp : us.all isPl = true) (hz : Nat.beq zc.length sz = true) (hl : Nat.ble (n * sz) 16777216 = true) (hf : fillA (fun i => some (i * sz, sz)) ((madeCells z.cells (n * sz)).toList.map c1) ((parts.toList.map (·.1)).zip us) = some cs) (hn : nrE d env = true)
    (k : WO P X all l (look ((d, .ow e sz n cs) :: env)) R) : WO P X all (⟨some d, .buildSlice tx n parts, ty, pos, af, g⟩ :: l) (look env) R := by
  refine WO.op (σ1 := put (look env) d (.ow e sz n cs)) (gg_goes hg) (.buildS (us := us) rfl rfl hT.ht hT.hs hZ.hz (zr_size hZ hz) hT.h0 (Nat.le_of_ble_eq_true hl) hZ.h1 (by rw [hu]; exact TakeL.pls hp) hf) ?_
  rw [put_look hn rfl]; exact k
theorem noImL_pl {cs : List AV} (h : cs.all (fun c => match c with | .sc _ => true | .nl => true | _ => false) = true) : noImL cs = true := by
  induction cs with
  | nil => rfl
  | cons c cs ih =>
    simp only [List.all_cons, Bool.and_eq_true] at h
    simp only [noImL, Bool.and_eq_true]
    refine ⟨?_, ih h.2⟩
    have := h.1
    cases c <;> simp_all [noIm]
theorem QE.mvSc {x : Operand} {v : Value} (hop : MV op x) (hx : ov (look env) x = .sc v) : Ev P X (.qe ⟨some d, op, ty, pos, af, g⟩ (look env) (.sc v)) := .qo (by have := hop.qo (P := P) (env := env); rwa [hx] at this)
theorem QE.mvIm {x : Operand} {n : Nat} {cs : List AV} (hop : MV op x) (hx : ov (look env) x = .im n cs) : Ev P X (.qe ⟨some d, op, ty, pos, af, g⟩ (look env) (.im n cs)) := .qo (by have := hop.qo (P := P) (env := env); rwa [hx] at this)
theorem QE.mvVw {x : Operand} {r off n : Nat} {p : List Nat} (hop : MV op x) (hx : ov (look env) x = .vw r p off n) : Ev P X (.qe ⟨some d, op, ty, pos, af, g⟩ (look env) (.vw r p off n)) := .qo (by have := hop.qo (P := P) (env := env); rwa [hx] at this)
theorem QE.mvAd {x : Operand} {r i : Nat} {p : List Nat} (hop : MV op x) (hx : ov (look env) x = .ad r p i) : Ev P X (.qe ⟨some d, op, ty, pos, af, g⟩ (look env) (.ad r p i)) := .qo (by have := hop.qo (P := P) (env := env); rwa [hx] at this)
theorem QE.ixI {x ix : Operand} {tx e sz : Nat} {k0 : IntKind} {i : Int} {xs : List α} [hT : SlT P tx e sz] [hW : Wid f sz] (dv : α) (hx : ov (look env) x = .im xs.length (encL f xs)) (hi : ov (look env) ix = .sc (.int k0 i)) (h0 : 0 ≤ i) (h1 : i < (xs.length : Int)) :
    Ev P X (.qe ⟨some d, .indexAddr tx x ix, ty, pos, af, g⟩ (look env) (.ip (f (xs.getD i.toNat dv) ++ encL f (xs.drop (i.toNat + 1))))) := by
  have hlt : i.toNat < xs.length := by omega
  have hz := hT.h0
  have hc : i.toNat * sz < (encL f xs).length := by rw [encL_length (sz := sz)]; exact Nat.mul_lt_mul_of_pos_right hlt hz
  have := QO.indexI (P := P) (σ := look env) tx x ix e sz k0 i xs.length (encL f xs) hT.ht hT.hs hi hx h0 h1 hc
  rw [encL_at (sz := sz) hlt dv] at this
  exact .qo this
theorem QE.ixN {x ix : Operand} {tx e sz : Nat} {k0 : IntKind} {i : Nat} {xs : List α} [hT : SlT P tx e sz] [hW : Wid f sz] (dv : α) (hx : ov (look env) x = .im xs.length (encL f xs)) (hi : ov (look env) ix = .sc (.int k0 (i : Int))) (h1 : i < xs.length) :
    Ev P X (.qe ⟨some d, .indexAddr tx x ix, ty, pos, af, g⟩ (look env) (.ip (f (xs.getD i dv) ++ encL f (xs.drop (i + 1))))) :=
  QE.ixI (f := f) dv hx hi (by omega) (by omega)
theorem QE.ixO {x ix : Operand} {tx e sz r off n m e' sz' : Nat} {p : List Nat} {k0 : IntKind} {i : Int} {cs : List AV} [hT : SlT P tx e sz] (hx : ov (look env) x = .vw r p off n) (hr : getN p (look env r) = some (.ow e' sz' m cs)) (hl : off + n * sz ≤ cs.length) (hi : ov (look env) ix = .sc (.int k0 i)) (h0 : 0 ≤ i) (h1 : i < (n : Int)) :
    Ev P X (.qe ⟨some d, .indexAddr tx x ix, ty, pos, af, g⟩ (look env) (.ad r p (off + i.toNat * sz))) :=
  .qo (.indexV tx x ix e sz k0 i r off n m e' sz' p cs hT.ht hT.hs hi hx hr hl hT.h0 h0 h1)
theorem QE.ldI {x : Operand} {tx : TypeId} {cs : List AV} {c : AV} [hT : OnT P tx] (hx : ov (look env) x = .ip cs) (hc : cs[0]? = some c) : Ev P X (.qe ⟨some d, .load tx x, ty, pos, af, g⟩ (look env) c) := .qo (.load tx x c (.one c hT.ht (by rw [hx]; exact hc)))
theorem QE.ldIA {x : Operand} {tx s : Nat} {cs rest : List AV} [hT : AgT P tx s] (hx : ov (look env) x = .ip (cs ++ rest)) (hl : cs.length = s) : Ev P X (.qe ⟨some d, .load tx x, ty, pos, af, g⟩ (look env) (.ag cs)) :=
  .qo (.load tx x (.ag cs) (.many cs s hT.ht hT.hs hl hT.h0 (fun k hk => by rw [hx]; simp only [cell]; rw [List.getElem?_append_left (by omega)])))
theorem QE.ldO {x : Operand} {tx r i : Nat} {p : List Nat} {cs : List AV} {c : AV} [hT : OnT P tx] (hx : ov (look env) x = .ad r p i) (hr : nodeCells (look env) r p = some cs) (hc : cs[i]? = some c) (hp : isPl c = true) : Ev P X (.qe ⟨some d, .load tx x, ty, pos, af, g⟩ (look env) c) :=
  .qo (.load tx x c (.one c hT.ht (by rw [hx]; simp only [cell, hr, Option.bind_some, Nat.add_zero, hc, Option.map_some, refT_pl hp])))
theorem QE.flI {x : Operand} {s fd off : Nat} {cs : List AV} [hT : FlT P s fd off] (hc : ov (look env) x = .ip cs) : Ev P X (.qe ⟨some d, .fieldAddr s x fd, ty, pos, af, g⟩ (look env) (.ip (cs.drop off))) := by
  obtain ⟨fs, f', n, h1, h2, h3, h4, rfl⟩ := flT_some hT.h
  exact .qo (.fieldAddr s x fd n fs f' _ h1 h2 h3 h4 (by rw [hc]; rfl))
theorem QE.not {x : Operand} {tx : TypeId} {b : Bool} (hx : ov (look env) x = .sc (.bool b)) : Ev P X (.qe ⟨some d, .unOp .not tx x, ty, pos, af, g⟩ (look env) (.sc (.bool (!b)))) := .qo (qo_not hx)
theorem QE.len {x : Operand} {tx e sz n : Nat} {cs : List AV} [hT : SlT P tx e sz] (hx : ov (look env) x = .im n cs) : Ev P X (.qe ⟨some d, .call { callee := .builtin .len, args := #[x], argTypes := #[tx] }, ty, pos, af, g⟩ (look env) (.sc (.int .i64 n))) := .qo (.lenI tx x e n cs hT.ht hx)
theorem QE.bin {o : BinOp} {x y : Operand} {tx ty2 : TypeId} {a b : Int} {v : Value} (hx : ov (look env) x = .sc (.int .i64 a)) (hy : ov (look env) y = .sc (.int .i64 b)) (h : bin64 o a b = some v) (hc : cAV v = .sc v) : Ev P X (.qe ⟨some d, .binOp o tx x y ty2, ty, pos, af, g⟩ (look env) (.sc v)) :=
  .qo (by have := qo_bin (P := P) (ty := ty2) (tx := tx) hx hy h; rwa [hc] at this)
theorem QE.call {fn : FuncId} {xs : Array Operand} {ts : Array TypeId} {args fin : List AV} {res : AV} (ha : xs.toList.map (ov (look env)) = args) (hp : args.all isPlA = true) (hf : Ev P X (.fn fn args res fin)) : Ev P X (.qe ⟨some d, .call { callee := .value (.func fn), args := xs, argTypes := ts }, ty, pos, af, g⟩ (look env) res) :=
  .qcall rfl (by rw [ha]; exact FrzL.plains hp) hf (.inr (by rw [ha]; exact hp))
end
end Go.Eng
