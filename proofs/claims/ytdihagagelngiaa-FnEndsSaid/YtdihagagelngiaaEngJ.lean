/- The engine, part J: the relation: operations, code, functions; what each comes to. -/
import Derived.Test.YtdihagagelngiaaEngI
import Derived.Orders
namespace Go.Eng
open Go
set_option linter.unusedVariables false
set_option linter.unusedSimpArgs false

mutual
def hard : AV → AV
  | .ow _ _ n cs => .im n (hardL cs)
  | .op cs => .ip (hardL cs)
  | .ag cs => .ag (hardL cs)
  | .tu cs => .tu (hardL cs)
  | .vw _ _ _ _ => .dead
  | .ad _ _ _ => .dead
  | .sc v => .sc v
  | .nl => .nl
  | .im n cs => .im n cs
  | .ip cs => .ip cs
  | .dead => .dead
def hardL : List AV → List AV
  | [] => []
  | c :: cs => hard c :: hardL cs
end
/-- A copy that is only read, of what a reference leads to. -/
inductive Frz (σ : Nat → AV) : AV → AV → Prop
  | plain (a) (h : isPl a = true) : Frz σ a a
  | vw (r off n e sz m : Nat) (p : List Nat) (cs : List AV) (hn : getN p (σ r) = some (.ow e sz m cs)) (hl : off + n * sz ≤ cs.length) : Frz σ (.vw r p off n) (.im n (hardL ((cs.drop off).take (n * sz))))
  | ad (r i : Nat) (p : List Nat) (cs : List AV) (hn : nodeCells σ r p = some cs) : Frz σ (.ad r p i) (.ip (hardL (cs.drop i)))
/-- Several, structs among them. -/
inductive FrzL (σ : Nat → AV) : List AV → List AV → Prop
  | nil : FrzL σ [] []
  | cons {a b : AV} {as bs : List AV} (h : Frz σ a b) (k : FrzL σ as bs) : FrzL σ (a :: as) (b :: bs)
  | ag {cs ds as bs : List AV} (h : FrzL σ cs ds) (k : FrzL σ as bs) : FrzL σ (.ag cs :: as) (.ag ds :: bs)

/-! No part that is only read. -/
mutual
def noIm : AV → Bool
  | .im _ cs => cs.isEmpty
  | .ip _ => false
  | .ow _ _ _ cs => noImL cs
  | .op cs => noImL cs
  | .ag cs => noImL cs
  | .tu cs => noImL cs
  | _ => true
def noImL : List AV → Bool
  | [] => true
  | c :: cs => noIm c && noImL cs
end
/-! No reference at the top, or in a struct. -/
mutual
def noRf : AV → Bool
  | .vw _ _ _ _ => false
  | .ad _ _ _ => false
  | .ag cs => noRfL cs
  | .tu cs => noRfL cs
  | _ => true
def noRfL : List AV → Bool
  | [] => true
  | c :: cs => noRf c && noRfL cs
end

/-- What is handed over whole is taken out of its place. -/
inductive TakeF : (Nat → AV) → List AV → List AV → (Nat → AV) → Prop
  | nil (σ) : TakeF σ [] [] σ
  | plain {σ σ' : Nat → AV} {a : AV} {as ts : List AV} (h : isPl a = true) (k : TakeF σ as ts σ') : TakeF σ (a :: as) (a :: ts) σ'
  | vw {σ σ' : Nat → AV} {r n e sz : Nat} {p : List Nat} {cs as ts : List AV} (hn : getN p (σ r) = some (.ow e sz n cs)) (hl : cs.length = n * sz) (k : TakeF (setS σ r p .dead) as ts σ') : TakeF σ (.vw r p 0 n :: as) (.ow e sz n cs :: ts) σ'
  | ad {σ σ' : Nat → AV} {r : Nat} {p : List Nat} {cs as ts : List AV} (hn : getN p (σ r) = some (.op cs)) (k : TakeF (setS σ r p .dead) as ts σ') : TakeF σ (.ad r p 0 :: as) (.op cs :: ts) σ'
  | ag {σ σ1 σ' : Nat → AV} {cs ds as ts : List AV} (h : TakeF σ cs ds σ1) (k : TakeF σ1 as ts σ') : TakeF σ (.ag cs :: as) (.ag ds :: ts) σ'
theorem TakeF.takeL {σ σ' : Nat → AV} {as ts : List AV} (h : TakeF σ as ts σ') : TakeL σ as ts σ' := by
  induction h with
  | nil σ => exact .nil σ
  | plain h k ih => exact .plain h ih
  | vw hn hl k ih =>
    have := TakeL.vw hn (Nat.le_refl _) ih
    rwa [List.take_of_length_le (by omega)] at this
  | ad hn k ih => exact .ad hn ih
  | ag h k ih1 ih2 => exact .ag ih1 ih2
/-- What is handed over: own (true: it comes back turned), or only read. -/
inductive PassL (σe : Nat → AV) : (Nat → AV) → List Bool → List AV → List AV → (Nat → AV) → Prop
  | nil (σ) : PassL σe σ [] [] [] σ
  | own {σ σ1 σ2 : Nat → AV} {a t : AV} {ms : List Bool} {as ts : List AV} (h : TakeF σ [a] [t] σ1) (k : PassL σe σ1 ms as ts σ2) : PassL σe σ (true :: ms) (a :: as) (t :: ts) σ2
  | ro {σ σ2 : Nat → AV} {a b : AV} {ms : List Bool} {as ts : List AV} (h : FrzL σe [a] [b]) (k : PassL σe σ ms as ts σ2) : PassL σe σ (false :: ms) (a :: as) (b :: ts) σ2
/-! The places that references name. -/
mutual
def refs : AV → List (Nat × List Nat)
  | .vw r p _ _ => [(r, p)]
  | .ad r p _ => [(r, p)]
  | .ag cs => refsL cs
  | .tu cs => refsL cs
  | _ => []
def refsL : List AV → List (Nat × List Nat)
  | [] => []
  | c :: cs => refs c ++ refsL cs
end
def owRefs : List Bool → List AV → List (Nat × List Nat)
  | true :: ms, a :: as => refs a ++ owRefs ms as
  | _ :: ms, _ :: as => owRefs ms as
  | _, _ => []
/-- It comes back. -/
def isU (r : Nat) (p : List Nat) : Nat → List Nat → Bool := fun r' q => r' == r && (p.isPrefixOf q && decide (p.length < q.length))
inductive BackL : (Nat → AV) → List Bool → List AV → List AV → (Nat → AV) → Prop
  | nil (σ) : BackL σ [] [] [] σ
  | skip {σ σ' : Nat → AV} {a t : AV} {m : Bool} {ms : List Bool} {as ts : List AV} (k : BackL σ ms as ts σ') : BackL σ (m :: ms) (a :: as) (t :: ts) σ'
  | vw {σ σ' : Nat → AV} {r n : Nat} {p : List Nat} {t : AV} {ms : List Bool} {as ts : List AV} (hn : getN p (σ r) = some .dead) (k : BackL (modS σ r p (isU r p) t) ms as ts σ') : BackL σ (true :: ms) (.vw r p 0 n :: as) (t :: ts) σ'
  | ad {σ σ' : Nat → AV} {r : Nat} {p : List Nat} {t : AV} {ms : List Bool} {as ts : List AV} (hn : getN p (σ r) = some .dead) (k : BackL (modS σ r p (isU r p) t) ms as ts σ') : BackL σ (true :: ms) (.ad r p 0 :: as) (t :: ts) σ'
  | ag {σ σ1 σ' : Nat → AV} {cs ds : List AV} {ms : List Bool} {as ts : List AV} (h : BackL σ (List.replicate cs.length true) cs ds σ1) (k : BackL σ1 ms as ts σ') : BackL σ (true :: ms) (.ag cs :: as) (.ag ds :: ts) σ'

/-- No one of them lies in another. -/
def stab (S : List (Nat × List Nat)) : Bool := S.all fun x => S.all fun y => !(isU x.1 x.2 y.1 y.2)
inductive Ex where
  | normal
  | exit (id : Nat)
  | ret
  deriving DecidableEq
def Ex.toExit : Ex → Exit
  | .normal => .normal
  | .exit id => .exit id
  | .ret => .ret
def Ex.inB (id : Nat) : Ex → Ex
  | .exit j => if j = id then .normal else .exit j
  | e => e

def Drop (σ σ' : Nat → AV) : Prop := ∀ t, σ' t = .dead ∨ σ' t = σ t
def putD (σ : Nat → AV) (d : Option Nat) (av : AV) : Nat → AV :=
  match d with
  | some d => put σ d av
  | none => σ
/-- What a function begins with. -/
def enter (args : List AV) : Nat → AV := fun t => if t < HB then (if t < args.length then refT (HB + t) [] (args.getD t .dead) else .dead) else args.getD (t - HB) .dead
def fins (n : Nat) (σ : Nat → AV) : List AV := (List.range n).map fun i => σ (HB + i)
def resOf : List AV → AV
  | [r] => r
  | rs => .tu rs
/-- What is handed back. -/
inductive ResL (P : Program) (σ : Nat → AV) : List ResultVar → List AV → Prop
  | nil : ResL P σ [] []
  | tmp (t : Nat) {rs : List ResultVar} {as : List AV} (k : ResL P σ rs as) : ResL P σ (.tmp t :: rs) (ov σ (.tmp t) :: as)
  | cell (a : Nat) (t : TypeId) {c : AV} {rs : List ResultVar} {as : List AV} (h : LD P σ t (ov σ (.tmp a)) c) (k : ResL P σ rs as) : ResL P σ (.cell a t :: rs) (c :: as)
def codeOk (N : Nat) : Code → Bool
  | .region _ ops _ => ops.toList.all fun o => match o.dst with | some d => decide (d < N) | none => true
  | .seq a b => codeOk N a && codeOk N b
  | .cond _ a b => codeOk N a && codeOk N b
  | .block _ a => codeOk N a
  | .loop a => codeOk N a
  | .scope a => codeOk N a
  | _ => true

/-- Drawn regions: who stands ahead of whom; what one may not look at; what one turns. -/
def dstOf (ops : Array Oper) (i : Nat) : Option Nat := (ops[i]?).bind (·.dst)
def ordd (anc : List (List Nat)) (i j : Nat) : Bool := decide (j = i) || ((anc.getD i []).contains j || (anc.getD j []).contains i)
/-- What an operation that is not quiet turns, beside where its result goes (if it may stand unordered). -/
def gTn : List (Nat × List Nat) → Nat → Option (List Nat)
  | [], _ => none
  | (k, T) :: g, i => bif Nat.beq k i then some T else gTn g i
def hides (ops : Array Oper) (anc : List (List Nat)) (i : Nat) : List Nat :=
  (List.range ops.size).filterMap fun j => if ordd anc i j then none else dstOf ops j
def hidesG (ops : Array Oper) (anc : List (List Nat)) (gen : List (Nat × List Nat)) (i : Nat) : List Nat :=
  (List.range ops.size).flatMap fun j => if ordd anc i j then [] else (dstOf ops j).toList ++ (gTn gen j).getD []
def gmix (ops : Array Oper) (anc : List (List Nat)) (gen : List (Nat × List Nat)) (i : Nat) : Bool :=
  (List.range ops.size).any fun j => !(ordd anc i j) && (gTn gen j).isSome
def maskR (M : List Nat) (σ : Nat → AV) : Nat → AV := fun t => if M.contains t then .dead else σ t
/-- What a result may not refer to. -/
def badD (d : Nat) (HD H : List Nat) (gm : Bool) : Nat → List Nat → Bool := fun r p => r == d || (HD.contains r || ((H.contains r || gm) && !p.isEmpty))
/-- What hidden registers, and what the others, may not refer to while one is at work that turns something. -/
def badC (D H : List Nat) : Nat → List Nat → Bool := fun r p => D.contains r || (!(H.contains r) && !p.isEmpty)
def badE (H : List Nat) : Nat → List Nat → Bool := fun r p => H.contains r && !p.isEmpty
/-- One is put over the other at some registers. -/
def over (W : List Nat) (ρ σ : Nat → AV) : Nat → AV := fun t => if W.contains t then ρ t else σ t
def apartL (A B : List Nat) : Bool := A.all fun x => !(B.contains x)
def drawOk (ops : Array Oper) (anc : List (List Nat)) (quiet : List Nat) (gen : List (Nat × List Nat)) : Bool :=
  (List.range ops.size).all fun i =>
    (((ops[i]?).map fun o => o.after.toList.all fun e => !(Region.binds .any e) || decide (e.on < i)).getD true) &&
    ((anc.getD i []).all fun j => decide (j < i) && ((ops[i]?).map fun o => o.after.toList.any fun e => Region.binds .any e && (e.on == j || (anc.getD e.on []).contains j)).getD false) &&
    (List.range i).all fun j => (anc.getD i []).contains j || ((quiet.contains i || (gTn gen i).isSome) && (quiet.contains j || (gTn gen j).isSome) && apartL ((dstOf ops i).toList ++ (gTn gen i).getD []) ((dstOf ops j).toList ++ (gTn gen j).getD []))
def freeOf (σ : Nat → AV) (d : Nat) : Prop := ∀ t, mask (isR d) (σ t) = σ t

inductive Job where
  | qe (o : Oper) (σ : Nat → AV) (av : AV)
  | op (o : Oper) (σ σ' : Nat → AV)
  | ops (all : Array Oper) (l : List Oper) (σ σ' : Nat → AV)
  | drawn (all : Array Oper) (anc : List (List Nat)) (quiet : List Nat) (gen : List (Nat × List Nat)) (l : List Nat) (σ σ' : Nat → AV)
  | code (c : Code) (σ : Nat → AV) (ex : Ex) (σ' : Nat → AV)
  | fn (f : FuncId) (args : List AV) (res : AV) (fin : List AV)

/-- May an operation go on? (some true), or is it passed over (some false). -/
def goes (all : Array Oper) (σ : Nat → AV) (o : Oper) : Option Bool :=
  match o.guard with
  | none => some true
  | some (j, want) => match dstOf all j with
    | some d => bif Nat.blt d HB then (match σ d with | .sc (.bool b) => some (b == want) | .tu [] => some false | _ => none) else none
    | none => none

def isPlA : AV → Bool
  | .ag cs => cs.all isPl
  | a => isPl a
/-- Cells that may be copied. -/
inductive Cpy (σ : Nat → AV) : AV → Nat → List AV → Prop
  | im (m : Nat) (cs : List AV) : Cpy σ (.im m cs) m cs
  | vw (r off m e sz k : Nat) (p : List Nat) (cs : List AV) (hn : getN p (σ r) = some (.ow e sz k cs)) (hl : off + m * sz ≤ cs.length) (hp : ((cs.drop off).take (m * sz)).all isPl = true) : Cpy σ (.vw r p off m) m ((cs.drop off).take (m * sz))
/-- What stands ahead of what is appended. -/
inductive Base (e sz : Nat) : AV → Nat → List AV → Prop
  | nl : Base e sz .nl 0 []
  | ow (n : Nat) (cs : List AV) : Base e sz (.ow e sz n cs) n cs
def roPl : List Bool → List AV → Bool
  | false :: ms, a :: as => isPlA a && roPl ms as
  | _ :: ms, _ :: as => roPl ms as
  | _, _ => true
def owNo : List Bool → List AV → Bool
  | true :: ms, t :: ts => noIm t && owNo ms ts
  | _ :: ms, _ :: ts => owNo ms ts
  | _, _ => true
/-- What may stand in for an empty slice. -/
inductive CastN : AV → Prop
  | im : CastN (.im 0 [])
  | ow (e sz : Nat) (h : 0 < sz) : CastN (.ow e sz 0 [])
def isOw : AV → Bool
  | .ow .. | .op _ => true
  | _ => false

inductive Ev (P : Program) (X : FuncId → List AV → AV → List AV → Prop) : Job → Prop
  | qo {o : Oper} {σ : Nat → AV} {av : AV} (h : QO P σ o.op av) : Ev P X (.qe o σ av)
  | qcall {o : Oper} {σ : Nat → AV} {f : FuncId} {xs : Array Operand} {ts : Array TypeId} {args fin : List AV} {res : AV} (ho : o.op = .call { callee := .value (.func f), args := xs, argTypes := ts })
      (ha : FrzL σ (xs.toList.map (ov σ)) args) (hf : Ev P X (.fn f args res fin)) (hn : noIm res = true ∨ (xs.toList.map (ov σ)).all isPlA = true) : Ev P X (.qe o σ res)
  | quiet {o : Oper} {σ : Nat → AV} {av : AV} (h : Ev P X (.qe o σ av)) : Ev P X (.op o σ (putD σ o.dst av))
  | take {o : Oper} {σ σ1 : Nat → AV} {x : Operand} {t : AV} {d : Nat} (ho : o.op = .move x ∨ o.op = .assign x) (hd : o.dst = some d) (h : TakeL σ [ov σ x] [t] σ1) : Ev P X (.op o σ (put σ1 d t))
  | store {o : Oper} {σ σ1 σ2 : Nat → AV} {t : TypeId} {x y : Operand} {r i : Nat} {p : List Nat} {tr : AV} {vs : List AV} (ho : o.op = .store t x y) (hx : ov σ x = .ad r p i) (hr : (nodeCells σ1 r p).isSome = true) (h : TakeL σ [ov σ y] [tr] σ1) (hv : acells tr = some vs) (hs : szT P t = some vs.length) (hS : StoreL σ1 r p i vs σ2) : Ev P X (.op o σ (putD σ2 o.dst .dead))
  | box {o : Oper} {σ σ1 : Nat → AV} {e : TypeId} {x : Operand} {t : AV} {cs : List AV} {d : Nat} (ho : o.op = .box e x) (hd : o.dst = some d) (h : TakeL σ [ov σ x] [t] σ1) (hc : acells t = some cs) : Ev P X (.op o σ (put σ1 d (.op cs)))
  | buildS {o : Oper} {σ σ1 : Nat → AV} {t e sz len : Nat} {parts : Array (Nat × Operand)} {us cs : List AV} {z : Value} {d : Nat} (ho : o.op = .buildSlice t len parts) (hd : o.dst = some d) (ht : P.underlying t = some (.slice e)) (hs : szT P e = some sz) (hz : zeroT P e = some z) (hzs : z.cells.size = sz) (h0 : 0 < sz) (hl : len * sz ≤ 16777216) (h1 : z.cells.toList.all (·.oneCell') = true)
      (h : TakeL σ (parts.toList.map fun x => ov σ x.2) us σ1) (hf : fillA (fun i => some (i * sz, sz)) ((madeCells z.cells (len * sz)).toList.map c1) ((parts.toList.map (·.1)).zip us) = some cs) : Ev P X (.op o σ (put σ1 d (.ow e sz len cs)))
  | appendC {o : Oper} {σ σ1 : Nat → AV} {t e sz by_ n m : Nat} {s x : Operand} {b : AV} {cs L : List AV} {z : Value} {d : Nat} (ho : o.op = .call { callee := .builtin .append, args := #[s, x], argTypes := #[t, t] }) (hd : o.dst = some d) (ht : P.underlying t = some (.slice e)) (hs : szT P e = some sz) (hb : bytesT P e = some by_) (hz : zeroT P e = some z) (hzs : z.cells.size = sz) (h0 : 0 < sz)
      (h : TakeL σ [ov σ s] [b] σ1) (hB : Base e sz b n cs) (hc : Cpy σ (ov σ x) m L) (hL : L.length = m * sz) (h63 : n + m ≤ maxLen) (hby : (n + m) * by_ ≤ 140737488355328) : Ev P X (.op o σ (put σ1 d (.ow e sz (n + m) (cs ++ L))))
  | appendN {o : Oper} {σ σ1 : Nat → AV} {t e : Nat} {s x : Operand} {b : AV} {d sz : Nat} (ho : o.op = .call { callee := .builtin .append, args := #[s, x], argTypes := #[t, t] }) (hd : o.dst = some d) (ht : P.underlying t = some (.slice e)) (hs : szT P e = some sz)
      (h : TakeL σ [ov σ s] [b] σ1) (hB : b = .nl ∨ ∃ n cs, b = .ow e sz n cs) (hc : ov σ x = .nl) : Ev P X (.op o σ (put σ1 d b))
  | appendM {o : Oper} {σ σ1 σ2 : Nat → AV} {t e sz by_ n m : Nat} {s x : Operand} {b : AV} {cs L : List AV} {z : Value} {d : Nat} (ho : o.op = .call { callee := .builtin .append, args := #[s, x], argTypes := #[t, t] }) (hd : o.dst = some d) (ht : P.underlying t = some (.slice e)) (hs : szT P e = some sz) (hb : bytesT P e = some by_) (hz : zeroT P e = some z) (hzs : z.cells.size = sz) (h0 : 0 < sz)
      (h : TakeL σ [ov σ s, ov σ x] [b, .ow e sz m L] σ1) (hB : Base e sz b n cs) (h63 : n + m ≤ maxLen) (hby : (n + m) * by_ ≤ 140737488355328) : Ev P X (.op o σ (put σ1 d (.ow e sz (n + m) (cs ++ L))))
  | call {o : Oper} {σ σ1 σ2 : Nat → AV} {f : FuncId} {xs : Array Operand} {ts : Array TypeId} {ms : List Bool} {args fin : List AV} {res : AV} (ho : o.op = .call { callee := .value (.func f), args := xs, argTypes := ts })
      (hp : PassL σ1 σ ms (xs.toList.map (ov σ)) args σ1) (hf : Ev P X (.fn f args res fin)) (hn : (noIm res = true ∧ owNo ms fin = true) ∨ roPl ms (xs.toList.map (ov σ)) = true) (hs : stab (owRefs ms (xs.toList.map (ov σ))) = true) (hb : BackL σ1 ms (xs.toList.map (ov σ)) fin σ2) : Ev P X (.op o σ (putD σ2 o.dst res))
  | opsNil (all : Array Oper) (σ : Nat → AV) : Ev P X (.ops all [] σ σ)
  | opsCons {all : Array Oper} {o : Oper} {l : List Oper} {σ σ1 σ2 : Nat → AV} (hg : goes all σ o = some true) (h : Ev P X (.op o σ σ1)) (k : Ev P X (.ops all l σ1 σ2)) : Ev P X (.ops all (o :: l) σ σ2)
  | opsSkip {all : Array Oper} {o : Oper} {l : List Oper} {σ σ2 : Nat → AV} (hg : goes all σ o = some false) (k : Ev P X (.ops all l (putD σ o.dst (.tu [])) σ2)) : Ev P X (.ops all (o :: l) σ σ2)
  | opsDrop {all : Array Oper} {l : List Oper} {σ σ1 σ2 : Nat → AV} (hd : Drop σ σ1) (k : Ev P X (.ops all l σ1 σ2)) : Ev P X (.ops all l σ σ2)
  | opsHard {all : Array Oper} {l : List Oper} {σ σ2 : Nat → AV} {r : Nat} {p : List Nat} {x : AV} (hn : getN p (σ r) = some x) (hx : isOw x = true) (k : Ev P X (.ops all l (setS σ r p (hard x)) σ2)) : Ev P X (.ops all l σ σ2)
  | opsCast {all : Array Oper} {l : List Oper} {σ σ2 : Nat → AV} {r : Nat} {p : List Nat} {x : AV} (hn : getN p (σ r) = some .nl) (hx : CastN x) (k : Ev P X (.ops all l (setS σ r p x) σ2)) : Ev P X (.ops all l σ σ2)
  | drNil (all : Array Oper) (anc : List (List Nat)) (quiet : List Nat) (gen : List (Nat × List Nat)) (σ : Nat → AV) : Ev P X (.drawn all anc quiet gen [] σ σ)
  | drQuiet {all : Array Oper} {anc : List (List Nat)} {quiet : List Nat} {gen : List (Nat × List Nat)} {i d : Nat} {l : List Nat} {o : Oper} {σ σ2 : Nat → AV} {av : AV} (hi : all[i]? = some o) (hq : quiet.contains i = true) (hq2 : gTn gen i = none) (hd : o.dst = some d) (hg : goes all (maskR (hidesG all anc gen i) σ) o = some true) (h : Ev P X (.qe o (maskR (hidesG all anc gen i) σ) av))
      (h1 : σ d = .dead) (h2 : freeOf σ d) (h3 : mask (badD d (hides all anc i) (hidesG all anc gen i) (gmix all anc gen i)) av = av) (k : Ev P X (.drawn all anc quiet gen l (upd σ d av) σ2)) : Ev P X (.drawn all anc quiet gen (i :: l) σ σ2)
  | drQuietN {all : Array Oper} {anc : List (List Nat)} {quiet : List Nat} {gen : List (Nat × List Nat)} {i : Nat} {l : List Nat} {o : Oper} {σ σ2 : Nat → AV} {av : AV} (hi : all[i]? = some o) (hq : quiet.contains i = true) (hq2 : gTn gen i = none) (hd : o.dst = none) (hg : goes all (maskR (hidesG all anc gen i) σ) o = some true) (h : Ev P X (.qe o (maskR (hidesG all anc gen i) σ) av))
      (k : Ev P X (.drawn all anc quiet gen l σ σ2)) : Ev P X (.drawn all anc quiet gen (i :: l) σ σ2)
  | drSkip {all : Array Oper} {anc : List (List Nat)} {quiet : List Nat} {gen : List (Nat × List Nat)} {i d : Nat} {l : List Nat} {o : Oper} {σ σ2 : Nat → AV} (hi : all[i]? = some o) (hq : quiet.contains i = true) (hq2 : gTn gen i = none) (hd : o.dst = some d) (hg : goes all (maskR (hidesG all anc gen i) σ) o = some false)
      (h1 : σ d = .dead) (h2 : freeOf σ d) (k : Ev P X (.drawn all anc quiet gen l (upd σ d (.tu [])) σ2)) : Ev P X (.drawn all anc quiet gen (i :: l) σ σ2)
  | drGen {all : Array Oper} {anc : List (List Nat)} {quiet : List Nat} {gen : List (Nat × List Nat)} {i : Nat} {l T : List Nat} {o : Oper} {σ τ' σ2 : Nat → AV} (hi : all[i]? = some o) (hq : quiet.contains i = false) (hT : gTn gen i = some T) (h : Ev P X (.ops all [o] (maskR (hidesG all anc gen i) σ) τ'))
      (hb : ∀ t, (o.dst.toList ++ T).contains t = false → τ' t = maskR (hidesG all anc gen i) σ t)
      (hd : ∀ d, o.dst = some d → σ d = .dead ∧ freeOf σ d ∧ mask (badD d (hides all anc i) (hidesG all anc gen i) (gmix all anc gen i)) (τ' d) = τ' d)
      (ht : ∀ t ∈ T, noRf (σ t) = true ∧ noRf (τ' t) = true)
      (hc : ∀ t, ((hidesG all anc gen i).contains t = true → mask (badC o.dst.toList (hidesG all anc gen i)) (σ t) = σ t) ∧ ((hidesG all anc gen i).contains t = false → mask (badE (hidesG all anc gen i)) (σ t) = σ t))
      (k : Ev P X (.drawn all anc quiet gen l (over (o.dst.toList ++ T) τ' σ) σ2)) : Ev P X (.drawn all anc quiet gen (i :: l) σ σ2)
  | drMut {all : Array Oper} {anc : List (List Nat)} {quiet : List Nat} {gen : List (Nat × List Nat)} {i : Nat} {l : List Nat} {o : Oper} {σ σ1 σ2 : Nat → AV} (hi : all[i]? = some o) (hq : quiet.contains i = false) (hq2 : gTn gen i = none) (h : Ev P X (.ops all [o] σ σ1)) (k : Ev P X (.drawn all anc quiet gen l σ1 σ2)) : Ev P X (.drawn all anc quiet gen (i :: l) σ σ2)
  | skip (σ : Nat → AV) : Ev P X (.code .skip σ .normal σ)
  | region {id : Nat} {ops : Array Oper} {σ σ' : Nat → AV} (h : Ev P X (.ops ops ops.toList σ σ')) : Ev P X (.code (.region id ops false) σ .normal σ')
  | regionD {id : Nat} {ops : Array Oper} {anc : List (List Nat)} {quiet : List Nat} {gen : List (Nat × List Nat)} {σ σ' : Nat → AV} (ho : drawOk ops anc quiet gen = true) (h : Ev P X (.drawn ops anc quiet gen (List.range ops.size) σ σ')) : Ev P X (.code (.region id ops true) σ .normal σ')
  | seqN {a b : Code} {σ σ1 σ2 : Nat → AV} {ex : Ex} (h : Ev P X (.code a σ .normal σ1)) (k : Ev P X (.code b σ1 ex σ2)) : Ev P X (.code (.seq a b) σ ex σ2)
  | seqX {a b : Code} {σ σ1 : Nat → AV} {ex : Ex} (h : Ev P X (.code a σ ex σ1)) (hx : ex ≠ .normal) : Ev P X (.code (.seq a b) σ ex σ1)
  | cond {c : Operand} {a b : Code} {σ σ1 : Nat → AV} {ex : Ex} {t : Bool} (hc : ov σ c = .sc (.bool t)) (h : Ev P X (.code (bif t then a else b) σ ex σ1)) : Ev P X (.code (.cond c a b) σ ex σ1)
  | block {id : Nat} {a : Code} {σ σ1 : Nat → AV} {ex : Ex} (h : Ev P X (.code a σ ex σ1)) : Ev P X (.code (.block id a) σ (ex.inB id) σ1)
  | loopN {a : Code} {σ σ1 σ2 : Nat → AV} {ex : Ex} (h : Ev P X (.code a σ .normal σ1)) (k : Ev P X (.code (.loop a) σ1 ex σ2)) : Ev P X (.code (.loop a) σ ex σ2)
  | loopX {a : Code} {σ σ1 : Nat → AV} {ex : Ex} (h : Ev P X (.code a σ ex σ1)) (hx : ex ≠ .normal) : Ev P X (.code (.loop a) σ ex σ1)
  | exit (id : Nat) (σ : Nat → AV) : Ev P X (.code (.exit id) σ (.exit id) σ)
  | ret (σ : Nat → AV) : Ev P X (.code .ret σ .ret σ)
  | drop {c : Code} {σ σ1 σ2 : Nat → AV} {ex : Ex} (hd : Drop σ σ1) (k : Ev P X (.code c σ1 ex σ2)) : Ev P X (.code c σ ex σ2)
  | dropP {c : Code} {σ σ1 σ2 : Nat → AV} {ex : Ex} (k : Ev P X (.code c σ ex σ1)) (hd : Drop σ1 σ2) : Ev P X (.code c σ ex σ2)
  | hard {c : Code} {σ σ2 : Nat → AV} {ex : Ex} {r : Nat} {p : List Nat} {x : AV} (hn : getN p (σ r) = some x) (hx : isOw x = true) (k : Ev P X (.code c (setS σ r p (hard x)) ex σ2)) : Ev P X (.code c σ ex σ2)
  | cast {c : Code} {σ σ2 : Nat → AV} {ex : Ex} {r : Nat} {p : List Nat} {x : AV} (hn : getN p (σ r) = some .nl) (hx : CastN x) (k : Ev P X (.code c (setS σ r p x) ex σ2)) : Ev P X (.code c σ ex σ2)
  | fn {f : FuncId} {F : Func} {c : Code} {args rs as : List AV} {σ1 σ2 : Nat → AV} {ex : Ex} (hF : P.funcs[f]? = some F) (hc : F.body = some c) (hnm : (F.name == "runtime.NumGoroutine") = false) (hN : F.ntmps ≤ HB) (hA : args.length ≤ F.ntmps) (hK : codeOk F.ntmps c = true) (h : Ev P X (.code c (enter args) ex σ1)) (hx : ex = .normal ∨ ex = .ret)
      (hr : ResL P σ1 F.results.toList as) (hT : TakeL σ1 as rs σ2) (hf : (fins args.length σ2).all noRf = true) : Ev P X (.fn f args (resOf rs) (fins args.length σ2))
  | fnDead {f : FuncId} {args fin fin' : List AV} {res : AV} (h : Ev P X (.fn f args res fin)) (hd : fin.length = fin'.length ∧ ∀ i : Nat, fin'[i]? = fin[i]? ∨ fin'[i]? = some AV.dead) : Ev P X (.fn f args res fin')
  | ext {f : FuncId} {args fin : List AV} {res : AV} (h : X f args res fin) : Ev P X (.fn f args res fin)
end Go.Eng
