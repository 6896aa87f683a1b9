/- The engine: calls that take a struct of own slices; a program that is owned, read and marked. -/
import Derived.Test.YtbhdobjjhkkpkaaEngV5
namespace Go.Eng
open Go Go.RowKit
section
variable {P : Program} {X : FuncId → List AV → AV → List AV → Prop} {all : Array Oper} {l : List Oper} {R : (Nat → AV) → Prop}
variable {g : Option (Nat × Bool)} {env : Env} {d : Nat} {ty : TypeId} {pos : String} {af : Array Edge}
/-- A call that takes a struct of own slices for good; what else it is given is only read. -/
theorem WO.callG {fn : FuncId} {x0 : Operand} {xs : List Operand} {ts : Array TypeId} {az cs zs fin : List AV} {res t' : AV} {env1 : Env} (hg : gg all (look env) g = some true) (hx : ov (look env) x0 = .ag az) (hT : TakeF (look env) [.ag az] [.ag cs] (look env1)) (ha : xs.map (ov (look env)) = zs) (hp : zs.all isPlA = true)
    (hf : Ev P X (.fn fn (.ag cs :: zs) res (t' :: fin))) (hi : noIm res = true) (hi2 : noIm t' = true) (hfl : fin.length = zs.length) (hst : stab (refs (.ag az)) = true) (hd : nrE d env1 = true) (hdr : nrA d res = true)
    (k : WO P X all l (look ((d, res) :: env1)) R) : WO P X all (⟨some d, .call { callee := .value (.func fn), args := (x0 :: xs).toArray, argTypes := ts }, ty, pos, af, g⟩ :: l) (look env) R := by
  have hro : ∀ (zs : List AV) {σ' : Nat → AV}, zs.all isPlA = true → PassL (look env1) σ' (List.replicate zs.length false) zs zs σ' := by
    intro zs
    induction zs with
    | nil => intro σ' _; exact .nil _
    | cons a zs ih =>
      intro σ' h
      simp only [List.all_cons, Bool.and_eq_true] at h
      exact .ro (FrzL.plains (by simp only [List.all_cons, h.1, List.all_nil, Bool.and_self])) (ih h.2)
  have hbk : ∀ (zs bs : List AV) {σ' : Nat → AV}, bs.length = zs.length → BackL σ' (List.replicate zs.length false) zs bs σ' := by
    intro zs
    induction zs with
    | nil => intro bs σ' h; cases bs with
      | nil => exact .nil _
      | cons b bs => simp at h
    | cons a zs ih =>
      intro bs σ' h
      cases bs with
      | nil => simp at h
      | cons b bs => exact .skip (ih bs (by simpa using h))
  have hno : ∀ (k : Nat) (ts : List AV), owNo (List.replicate k false) ts = true := by
    intro k
    induction k with
    | zero => intro ts; cases ts <;> rfl
    | succ k ih => intro ts; cases ts with
      | nil => rfl
      | cons t ts => simp only [List.replicate_succ, owNo]; exact ih ts
  have hor : ∀ (k : Nat) (zs : List AV), owRefs (List.replicate k false) zs = [] := by
    intro k
    induction k with
    | zero => intro zs; cases zs <;> rfl
    | succ k ih => intro zs; cases zs with
      | nil => rfl
      | cons t ts => simp only [List.replicate_succ, owRefs]; exact ih ts
  have hov : (x0 :: xs).toArray.toList.map (ov (look env)) = .ag az :: zs := by simp only [List.map_cons, hx, ha]
  refine WO.op (σ1 := putD (look env1) (some d) res) (gg_goes hg) (.call (ms := true :: List.replicate zs.length false) (σ1 := look env1) rfl ?_ hf (.inl ⟨hi, ?_⟩) ?_ ?_) ?_
  · rw [hov]; exact .own hT (hro zs hp)
  · simp only [owNo, hi2, hno, Bool.and_self]
  · rw [hov]; simp only [owRefs, hor, List.append_nil]; exact hst
  · rw [hov]; exact .skip (hbk zs fin hfl)
  · simp only [putD]
    rw [put_look hd hdr]
    exact k
end
end Go.Eng
namespace Go.Eng.C
open Go Go.Eng Go.RowKit Go.Proofs
set_option linter.unusedVariables false
set_option linter.unusedSimpArgs false
set_option maxRecDepth 10000
variable {X : FuncId → List AV → AV → List AV → Prop}
/-- The program that a node owns, with views for its parts. -/
def prV (r : Nat) (q : List Nat) (p : Pr) : List AV := [i64 p.w, .vw r (q ++ [1]) 0 p.lows.length, .vw r (q ++ [2]) 0 p.secs.length, i64 p.temps, .vw r (q ++ [4]) 0 p.arrs.length, .vw r (q ++ [5]) 0 p.body.length]
theorem hardL_stO : ∀ (l : List St), hardL (encL stO l) = encL stR l
  | [] => rfl
  | x :: l => by
    rw [encL_cons, encL_cons]
    simp only [stO, stR, List.cons_append, List.nil_append, hardL, Eng.hard, hardL_pl (encL_pl (f := tm) _), hardL_stO l]
theorem setS_same {env : Env} {r : Nat} {q : List Nat} {a x : AV} : setS (look ((r, a) :: env)) r q x = look ((r, setN q a x) :: env) := by
  have h : look ((r, a) :: env) r = a := by simp only [look, Nat.beq_refl, cond_true]
  rw [setS_look, h, look_dup]
/-- A program that a variable owns is given away for good. -/
theorem takeFpr {env : Env} {r : Nat} {p : Pr} (hr : look env r = .op (prO p)) : TakeF (look env) [.ag (prV r [] p)] [.ag (prO p)] (look ((r, .op [i64 p.w, .dead, .dead, i64 p.temps, .dead, .dead]) :: env)) := by
  have e1 : setS (look env) r [1] .dead = look ((r, .op [i64 p.w, .dead, .ow 143 2 p.secs.length (encL inp p.secs), i64 p.temps, .ow 2 1 p.arrs.length (encL eI p.arrs), .ow 122 4 p.body.length (encL stO p.body)]) :: env) := by rw [setS_look, hr]; rfl
  have e2 : setS (look ((r, .op [i64 p.w, .dead, .ow 143 2 p.secs.length (encL inp p.secs), i64 p.temps, .ow 2 1 p.arrs.length (encL eI p.arrs), .ow 122 4 p.body.length (encL stO p.body)]) :: env)) r [2] .dead = look ((r, .op [i64 p.w, .dead, .dead, i64 p.temps, .ow 2 1 p.arrs.length (encL eI p.arrs), .ow 122 4 p.body.length (encL stO p.body)]) :: env) := by
    rw [setS_same]; rfl
  have e3 : setS (look ((r, .op [i64 p.w, .dead, .dead, i64 p.temps, .ow 2 1 p.arrs.length (encL eI p.arrs), .ow 122 4 p.body.length (encL stO p.body)]) :: env)) r [4] .dead = look ((r, .op [i64 p.w, .dead, .dead, i64 p.temps, .dead, .ow 122 4 p.body.length (encL stO p.body)]) :: env) := by
    rw [setS_same]; rfl
  have e4 : setS (look ((r, .op [i64 p.w, .dead, .dead, i64 p.temps, .dead, .ow 122 4 p.body.length (encL stO p.body)]) :: env)) r [5] .dead = look ((r, .op [i64 p.w, .dead, .dead, i64 p.temps, .dead, .dead]) :: env) := by
    rw [setS_same]; rfl
  refine .ag (.plain rfl (.vw (e := 143) (sz := 2) (cs := encL inp p.lows) (by rw [hr]; rfl) (encL_length _) ?_)) (.nil _)
  rw [List.nil_append, e1]
  refine .vw (e := 143) (sz := 2) (cs := encL inp p.secs) (by simp only [look, Nat.beq_refl, cond_true]; rfl) (encL_length _) ?_
  rw [List.nil_append, e2]
  refine .plain rfl (.vw (e := 2) (sz := 1) (cs := encL eI p.arrs) (by simp only [look, Nat.beq_refl, cond_true]; rfl) (encL_length _) ?_)
  rw [List.nil_append, e3]
  refine .vw (e := 122) (sz := 4) (cs := encL stO p.body) (by simp only [look, Nat.beq_refl, cond_true]; rfl) (encL_length _) ?_
  rw [List.nil_append, e4]
  exact .nil _
/-- A program that a node owns is only read by a call. -/
theorem frzPr {env : Env} {r : Nat} {p : Pr} {zs ts : List AV} (h1 : getN [1] (look env r) = some (.ow 143 2 p.lows.length (encL inp p.lows))) (h2 : getN [2] (look env r) = some (.ow 143 2 p.secs.length (encL inp p.secs))) (h4 : getN [4] (look env r) = some (.ow 2 1 p.arrs.length (encL eI p.arrs))) (h5 : getN [5] (look env r) = some (.ow 122 4 p.body.length (encL stO p.body))) (k : FrzL (look env) zs ts) : FrzL (look env) (.ag (prV r [] p) :: zs) (.ag (prR p) :: ts) := by
  refine .ag (.cons (.plain _ rfl) (.cons ?_ (.cons ?_ (.cons (.plain _ rfl) (.cons ?_ (.cons ?_ .nil)))))) k
  · have := Frz.vw (σ := look env) r 0 p.lows.length 143 2 p.lows.length [1] (encL inp p.lows) h1 (by rw [encL_length (f := inp) (sz := 2)]; omega)
    rwa [List.drop_zero, List.take_of_length_le (by rw [encL_length (f := inp) (sz := 2)]; exact Nat.le_refl _), hardL_pl (encL_pl (f := inp) _)] at this
  · have := Frz.vw (σ := look env) r 0 p.secs.length 143 2 p.secs.length [2] (encL inp p.secs) h2 (by rw [encL_length (f := inp) (sz := 2)]; omega)
    rwa [List.drop_zero, List.take_of_length_le (by rw [encL_length (f := inp) (sz := 2)]; exact Nat.le_refl _), hardL_pl (encL_pl (f := inp) _)] at this
  · have := Frz.vw (σ := look env) r 0 p.arrs.length 2 1 p.arrs.length [4] (encL eI p.arrs) h4 (by rw [encL_length (f := eI) (sz := 1)]; omega)
    rwa [List.drop_zero, List.take_of_length_le (by rw [encL_length (f := eI) (sz := 1)]; exact Nat.le_refl _), hardL_pl (encL_pl (f := eI) _)] at this
  · have := Frz.vw (σ := look env) r 0 p.body.length 122 4 p.body.length [5] (encL stO p.body) h5 (by rw [encL_length (f := stO) (sz := 4)]; omega)
    rwa [List.drop_zero, List.take_of_length_le (by rw [encL_length (f := stO) (sz := 4)]; exact Nat.le_refl _), hardL_stO] at this
/-- A program that a register owns is only read from now on. -/
theorem WO.hardPr {P : Program} {X : FuncId → List AV → AV → List AV → Prop} {all : Array Oper} {l : List Oper} {R : (Nat → AV) → Prop} {env : Env} {r : Nat} {p : Pr} (hr : look env r = .ag (prO p)) (k : WO P X all l (look ((r, .ag (prR p)) :: env)) R) : WO P X all l (look env) R := by
  have hd : ∀ (a : AV) (e : Env), look ((r, a) :: e) r = a := fun a e => by simp only [look, Nat.beq_refl, cond_true]
  refine WO.hard (r := r) (p := [1]) (x := .ow 143 2 p.lows.length (encL inp p.lows)) (y := .ag [i64 p.w, .im p.lows.length (encL inp p.lows), .ow 143 2 p.secs.length (encL inp p.secs), i64 p.temps, .ow 2 1 p.arrs.length (encL eI p.arrs), .ow 122 4 p.body.length (encL stO p.body)]) (by rw [hr]; rfl) rfl (by rw [hr]; simp only [Eng.hard, hardL_pl (encL_pl (f := inp) _)]; rfl) ?_
  refine WO.hard (r := r) (p := [2]) (x := .ow 143 2 p.secs.length (encL inp p.secs)) (y := .ag [i64 p.w, .im p.lows.length (encL inp p.lows), .im p.secs.length (encL inp p.secs), i64 p.temps, .ow 2 1 p.arrs.length (encL eI p.arrs), .ow 122 4 p.body.length (encL stO p.body)]) (by rw [hd]; rfl) rfl (by rw [hd]; simp only [Eng.hard, hardL_pl (encL_pl (f := inp) _)]; rfl) ?_
  rw [look_dup]
  refine WO.hard (r := r) (p := [4]) (x := .ow 2 1 p.arrs.length (encL eI p.arrs)) (y := .ag [i64 p.w, .im p.lows.length (encL inp p.lows), .im p.secs.length (encL inp p.secs), i64 p.temps, .im p.arrs.length (encL eI p.arrs), .ow 122 4 p.body.length (encL stO p.body)]) (by rw [hd]; rfl) rfl (by rw [hd]; simp only [Eng.hard, hardL_pl (encL_pl (f := eI) _)]; rfl) ?_
  rw [look_dup]
  refine WO.hard (r := r) (p := [5]) (x := .ow 122 4 p.body.length (encL stO p.body)) (y := .ag (prR p)) (by rw [hd]; rfl) rfl (by rw [hd]; simp only [Eng.hard, hardL_stO]; rfl) ?_
  rw [look_dup]
  exact k
end Go.Eng.C
