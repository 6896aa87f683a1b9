/- The engine: structs of own slices as elements of an own slice. It holds of any program. -/
import Derived.Test.YtbhdobjjhkkpkaaEngB5
namespace Go.Eng
open Go Go.RowKit
set_option linter.unusedVariables false
set_option linter.unusedSimpArgs false
section
variable {P : Program} {X : FuncId → List AV → AV → List AV → Prop} {all : Array Oper} {l : List Oper} {R : (Nat → AV) → Prop}
variable {g : Option (Nat × Bool)} {env : Env} {d t : Nat} {ty : TypeId} {pos : String} {af : Array Edge} {α : Type} {f : α → List AV}
/-- A struct with own parts is stored into an element of an own slice. -/
theorem WO.stGA {x y : Operand} {tx r a i e sz n : Nat} {az : List AV} {xs : List α} {env1 : Env} [hT : AgT P tx sz] [hW : Wid f sz] (z : α) (hg : gg all (look env) g = some true) (hx : ov (look env) x = .ad r [] a) (ha : a = i * sz) (hy : ov (look env) y = .ag az) (hTk : TakeL (look env) [.ag az] [.ag (f z)] (look env1)) (h0 : ∃ cs, nodeCells (look env) r [] = some cs) (hr : look env1 r = .ow e sz n (encL f xs)) (hi : i < xs.length) (hne : nbE r 0 env1 = true)
    (k : WO P X all l (look ((r, .ow e sz n (encL f (xs.set i z))) :: env1)) R) : WO P X all (⟨none, .store tx x y, ty, pos, af, g⟩ :: l) (look env) R := by
  have hle : a + (f z).length ≤ (encL f xs).length := by
    rw [encL_length (sz := sz), hW.w, ha]
    have : (i + 1) * sz ≤ xs.length * sz := Nat.mul_le_mul_right _ hi
    rw [Nat.succ_mul] at this; omega
  obtain ⟨e', h1, h2⟩ := StoreL.root (r := r) (f z) (e := env1) (i := a) hne hr (.inl ⟨_, _, _, rfl⟩) hle
  refine WO.op (σ1 := putD (look e') none .dead) (gg_goes hg) (.store (σ1 := look env1) (vs := f z) (tr := .ag (f z)) rfl hx ?_ (by rw [hy]; exact hTk) rfl (by rw [hW.w]; exact hT.hs) h1) ?_
  · simp only [nodeCells, getN, hr]; rfl
  · show WO P X all l (look e') R
    subst ha
    rw [h2, withKids, setL_encL hi]; exact k
/-- An own part of an element of an own slice is looked at. -/
theorem WO.ldX {x : Operand} {tx r a i j e sz n e2 s2 m : Nat} {cs : List AV} {xs : List α} [hT : OnT P tx] [hW : Wid f sz] (dv : α) (hg : gg all (look env) g = some true) (hx : ov (look env) x = .ad r [] a) (ha : a = i * sz + j) (hj : j < sz) (hr : look env r = .ow e sz n (encL f xs)) (hi : i < xs.length) (hc : (f (xs.getD i dv))[j]? = some (.ow e2 s2 m cs)) (hrd : Nat.beq r d = false) (hn : nrE d env = true)
    (k : WO P X all l (look ((d, .vw r [a] 0 m) :: env)) R) : WO P X all (⟨some d, .load tx x, ty, pos, af, g⟩ :: l) (look env) R := by
  subst ha
  exact WO.ldOw (cs := encL f xs) (cs' := cs) (e := e2) (sz := s2) hg hx (by simp only [nodeCells, getN, hr]) (by rw [encL_get (sz := sz) hi hj dv, hc]) hrd hn k
/-- A call that takes an own part of an element of an own slice for good. -/
theorem WO.callX {fn : FuncId} {x0 : Operand} {xs : List Operand} {ts : Array TypeId} {r a i j e sz n e2 s2 m : Nat} {rows : List α} {cs : List AV} {as fin : List AV} {res t' : AV} [hW : Wid f sz] (dv z : α) (hg : gg all (look env) g = some true) (hx : ov (look env) x0 = .vw r [a] 0 m) (ha2 : a = i * sz + j) (hj : j < sz) (hr : look env r = .ow e sz n (encL f rows)) (hi : i < rows.length) (hc : (f (rows.getD i dv))[j]? = some (.ow e2 s2 m cs)) (hl : cs.length = m * s2) (hz : (f (rows.getD i dv)).set j t' = f z) (ha : xs.map (ov (look env)) = as) (hp : as.all isPlA = true)
    (hf : Ev P X (.fn fn (.ow e2 s2 m cs :: as) res (t' :: fin))) (hi2 : noIm res = true) (hnr : noIm t' = true) (hfl : fin.length = as.length) (hne : nbE r 1 env = true) (h1 : nbA r 1 (.ow e sz n ((encL f rows).set a .dead)) = true) (h2 : nbA r 1 (.ow e sz n (encL f (rows.set i z))) = true) (hd : nrE d env = true) (h3 : nrA d (.ow e sz n ((encL f rows).set a .dead)) = true) (h4 : nrA d (.ow e sz n (encL f (rows.set i z))) = true) (hdr : nrA d res = true)
    (k : WO P X all l (look ((d, res) :: (r, .ow e sz n (encL f (rows.set i z))) :: env)) R) : WO P X all (⟨some d, .call { callee := .value (.func fn), args := (x0 :: xs).toArray, argTypes := ts }, ty, pos, af, g⟩ :: l) (look env) R := by
  subst ha2
  have hget : (encL f rows)[i * sz + j]? = some (.ow e2 s2 m cs) := by rw [encL_get (sz := sz) hi hj dv, hc]
  have hset : ∀ v, setN [i * sz + j] (look env r) v = .ow e sz n ((encL f rows).set (i * sz + j) v) := by
    intro v; simp only [setN, hr, kids, hget, withKids]
  have hrow : (encL f rows).set (i * sz + j) t' = encL f (rows.set i z) := encL_set (f := f) (sz := sz) hi hj dv hz
  refine WO.callM (p := [i * sz + j]) hg hx (by simp only [getN, hr, kids, Option.bind_some, hget]) hl ha hp hf (by simp only [hi2, hnr, Bool.and_self]) hfl hne (by rw [hset]; exact h1) (by rw [hset, hrow]; exact h2) (by rw [hset, hset, hrow]; simp only [nrE, hd, h3, h4, Bool.and_self]) hdr ?_
  rw [hset, hset, hrow, look_dup2]
  exact k
end
end Go.Eng
