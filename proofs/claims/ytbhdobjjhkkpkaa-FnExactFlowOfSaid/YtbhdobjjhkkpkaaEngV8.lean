/- The engine: a struct of own slices is given to a call and comes back. -/
import Derived.Test.YtbhdobjjhkkpkaaEngV7
namespace Go.Eng
open Go Go.RowKit
section
variable {P : Program} {X : FuncId → List AV → AV → List AV → Prop} {all : Array Oper} {l : List Oper} {R : (Nat → AV) → Prop}
variable {g : Option (Nat × Bool)} {env : Env} {d : Nat} {ty : TypeId} {pos : String} {af : Array Edge}
/-- A call that takes a struct of own slices and gives it back; what else it is given is only read. -/
theorem WO.callGB {fn : FuncId} {x0 : Operand} {xs : List Operand} {ts : Array TypeId} {az cs zs fin : List AV} {dz : List AV} {res : AV} {env1 env2 : Env} (hg : gg all (look env) g = some true) (hx : ov (look env) x0 = .ag az) (hT : TakeF (look env) [.ag az] [.ag cs] (look env1)) (ha : xs.map (ov (look env)) = zs) (hp : zs.all isPlA = true)
    (hf : Ev P X (.fn fn (.ag cs :: zs) res (.ag dz :: fin))) (hi : noIm res = true) (hi2 : noIm (.ag dz) = true) (hfl : fin.length = zs.length) (hst : stab (refs (.ag az)) = true) (hB : BackL (look env1) (List.replicate az.length true) az dz (look env2)) (hd : nrE d env2 = true) (hdr : nrA d res = true)
    (k : WO P X all l (look ((d, res) :: env2)) R) : WO P X all (⟨some d, .call { callee := .value (.func fn), args := (x0 :: xs).toArray, argTypes := ts }, ty, pos, af, g⟩ :: l) (look env) R := by
  have hro : ∀ (zs : List AV) {σ' : Nat → AV}, zs.all isPlA = true → PassL (look env1) σ' (List.replicate zs.length false) zs zs σ' := by
    intro zs
    induction zs with
    | nil => intro σ' _; exact .nil _
    | cons a zs ih =>
      intro σ' h
      simp only [List.all_cons, Bool.and_eq_true] at h
      exact .ro (FrzL.plains (by simp only [List.all_cons, h.1, List.all_nil, Bool.and_self])) (ih h.2)
  have hbk : ∀ (zs bs : List AV) {σ' : Nat → AV}, bs.length = zs.length → BackL σ' (List.replicate zs.length false) zs bs σ' := by
    intro zs
    induction zs with
    | nil => intro bs σ' h; cases bs with
      | nil => exact .nil _
      | cons b bs => simp at h
    | cons a zs ih =>
      intro bs σ' h
      cases bs with
      | nil => simp at h
      | cons b bs => exact .skip (ih bs (by simpa using h))
  have hno : ∀ (k : Nat) (ts : List AV), owNo (List.replicate k false) ts = true := by
    intro k
    induction k with
    | zero => intro ts; cases ts <;> rfl
    | succ k ih => intro ts; cases ts with
      | nil => rfl
      | cons t ts => simp only [List.replicate_succ, owNo]; exact ih ts
  have hor : ∀ (k : Nat) (zs : List AV), owRefs (List.replicate k false) zs = [] := by
    intro k
    induction k with
    | zero => intro zs; cases zs <;> rfl
    | succ k ih => intro zs; cases zs with
      | nil => rfl
      | cons t ts => simp only [List.replicate_succ, owRefs]; exact ih ts
  have hov : (x0 :: xs).toArray.toList.map (ov (look env)) = .ag az :: zs := by simp only [List.map_cons, hx, ha]
  refine WO.op (σ1 := putD (look env2) (some d) res) (gg_goes hg) (.call (ms := true :: List.replicate zs.length false) (σ1 := look env1) rfl ?_ hf (.inl ⟨hi, ?_⟩) ?_ ?_) ?_
  · rw [hov]; exact .own hT (hro zs hp)
  · simp only [owNo, hi2, hno, Bool.and_self]
  · rw [hov]; simp only [owRefs, hor, List.append_nil]; exact hst
  · rw [hov]; exact .ag hB (hbk zs fin hfl)
  · simp only [putD]
    rw [put_look hd hdr]
    exact k
/-- Two parts come back. -/
theorem back2 {r n1 n2 : Nat} {x y : AV} (hne : nbE r 1 env = true) : BackL (look ((r, .op [.dead, .dead]) :: env)) [true, true] [.vw r [0] 0 n1, .vw r [1] 0 n2] [x, y] (look ((r, .op [x, y]) :: env)) := by
  have hd : ∀ (a : AV) (e : Env), look ((r, a) :: e) r = a := fun a e => by simp only [look, Nat.beq_refl, cond_true]
  have e1 : modS (look ((r, .op [.dead, .dead]) :: env)) r [0] (isU r [0]) x = look ((r, .op [x, .dead]) :: env) := by
    rw [modS_lookU (r := r) (p := [0]) (by simp only [nbE, nbA, List.length_singleton, hne, Bool.and_self]) (by rw [hd]; rfl), hd, look_dup]; rfl
  have e2 : modS (look ((r, .op [x, .dead]) :: env)) r [1] (isU r [1]) y = look ((r, .op [x, y]) :: env) := by
    rw [modS_lookU (r := r) (p := [1]) (by simp only [nbE, nbA, List.length_singleton, hne, Bool.and_self]) (by rw [hd]; rfl), hd, look_dup]; rfl
  refine .vw (by rw [hd]; rfl) ?_
  rw [e1]
  refine .vw (by rw [hd]; rfl) ?_
  rw [e2]
  exact .nil _
end
end Go.Eng
