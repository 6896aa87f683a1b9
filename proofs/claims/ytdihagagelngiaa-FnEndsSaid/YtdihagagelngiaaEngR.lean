/- The engine, part R: rules over lists that are laid out cell by cell; facts of types as instances. -/
import Derived.Test.YtdihagagelngiaaEngQ
namespace Go.Eng
open Go Go.RowKit
set_option linter.unusedVariables false
set_option linter.unusedSimpArgs false

/-! Facts of types, found by the type's number. -/
class SlT (P : Program) (t : TypeId) (e sz : outParam Nat) : Prop where
  ht : P.underlying t = some (.slice e)
  hs : szT P e = some sz
  h0 : 0 < sz
class ZrT (P : Program) (e : TypeId) (by_ : outParam Nat) (z : outParam Value) (cs : outParam (List AV)) : Prop where
  hb : bytesT P e = some by_
  hz : zeroT P e = some z
  h1 : z.cells.toList.all (·.oneCell') = true
  hc : z.cells.toList.map c1 = cs
def flT (P : Program) (s : TypeId) (f : Nat) : Option Nat :=
  match P.underlying s with
  | some (.struct fs) => (fs[f]?).bind fun fd => (szT P fd.type).bind fun n => bif Nat.blt 0 n then some fd.offset else none
  | _ => none
theorem flT_some {P : Program} {s : TypeId} {f off : Nat} (h : flT P s f = some off) : ∃ fs fd n, P.underlying s = some (.struct fs) ∧ fs[f]? = some fd ∧ szT P fd.type = some n ∧ 0 < n ∧ fd.offset = off := by
  unfold flT at h
  split at h
  · rename_i fs hu
    simp only [Option.bind_eq_some_iff] at h
    obtain ⟨fd, h1, n, h2, h3⟩ := h
    cases hb : Nat.blt 0 n
    · rw [hb] at h3; simp at h3
    · rw [hb, cond_true, Option.some.injEq] at h3
      have : 0 < n := Nat.le_of_ble_eq_true hb
      exact ⟨fs, fd, n, hu, h1, h2, this, h3⟩
  · simp at h
class FlT (P : Program) (s : TypeId) (f : Nat) (off : outParam Nat) : Prop where
  h : flT P s f = some off
class AgT (P : Program) (t : TypeId) (s : outParam Nat) : Prop where
  ht : aggT P t = some true
  hs : szT P t = some s
  h0 : 0 < s
class OnT (P : Program) (t : TypeId) : Prop where
  ht : aggT P t = some false
  hs : szT P t = some 1
class ArT (P : Program) (t : TypeId) (len e n : outParam Nat) : Prop where
  ht : P.underlying t = some (.array len e)
  hn : szT P e = some n

/-! Lists, laid out. -/
def encL {α : Type} (f : α → List AV) (l : List α) : List AV := l.flatMap f
theorem encL_nil {α : Type} (f : α → List AV) : encL f [] = [] := rfl
theorem encL_cons {α : Type} (f : α → List AV) (x : α) (l : List α) : encL f (x :: l) = f x ++ encL f l := rfl
theorem encL_append {α : Type} (f : α → List AV) (l m : List α) : encL f (l ++ m) = encL f l ++ encL f m := by simp [encL]
class Wid {α : Type} (f : α → List AV) (sz : outParam Nat) : Prop where
  w : ∀ x, (f x).length = sz
theorem encL_length {α : Type} {f : α → List AV} {sz : Nat} [h : Wid f sz] : ∀ (l : List α), (encL f l).length = l.length * sz
  | [] => by simp [encL]
  | x :: l => by rw [encL_cons, List.length_append, h.w, encL_length l, List.length_cons, Nat.succ_mul, Nat.add_comm]
theorem encL_drop {α : Type} {f : α → List AV} {sz : Nat} [h : Wid f sz] : ∀ (i : Nat) (l : List α), (encL f l).drop (i * sz) = encL f (l.drop i)
  | 0, l => by simp
  | i + 1, [] => by simp [encL]
  | i + 1, x :: l => by
    have e : (i + 1) * sz = (f x).length + i * sz := by rw [h.w, Nat.succ_mul, Nat.add_comm]
    rw [encL_cons, e, ← List.drop_drop, List.drop_left, encL_drop i l, List.drop_succ_cons]
theorem encL_take {α : Type} {f : α → List AV} {sz : Nat} [h : Wid f sz] : ∀ (i : Nat) (l : List α), (encL f l).take (i * sz) = encL f (l.take i)
  | 0, l => by simp [encL]
  | i + 1, [] => by simp [encL]
  | i + 1, x :: l => by
    have e : (i + 1) * sz = (f x).length + i * sz := by rw [h.w, Nat.succ_mul, Nat.add_comm]
    rw [encL_cons, e, List.take_length_add_append, encL_take i l, List.take_succ_cons, encL_cons]
theorem encL_at {α : Type} {f : α → List AV} {sz : Nat} [h : Wid f sz] {l : List α} {i : Nat} (hi : i < l.length) (d : α) : (encL f l).drop (i * sz) = f (l.getD i d) ++ encL f (l.drop (i + 1)) := by
  rw [encL_drop, List.drop_eq_getElem_cons hi, encL_cons, List.getD_eq_getElem?_getD, List.getElem?_eq_getElem hi]; rfl
theorem encL_get {α : Type} {f : α → List AV} {sz : Nat} [h : Wid f sz] {l : List α} {i j : Nat} (hi : i < l.length) (hj : j < sz) (d : α) : (encL f l)[i * sz + j]? = (f (l.getD i d))[j]? := by
  have e := congrArg (fun (m : List AV) => m[j]?) (encL_at (f := f) (sz := sz) hi d)
  simp only [List.getElem?_drop] at e
  rw [e, List.getElem?_append_left (by rw [h.w]; exact hj)]
theorem encL_set {α : Type} {f : α → List AV} {sz : Nat} [h : Wid f sz] : ∀ {l : List α} {i j : Nat} {c : AV} {y : α} (hi : i < l.length) (hj : j < sz) (d : α) (hy : (f (l.getD i d)).set j c = f y), (encL f l).set (i * sz + j) c = encL f (l.set i y)
  | x :: l, 0, j, c, y, hi, hj, d, hy => by
    simp only [List.getD_cons_zero] at hy
    rw [Nat.zero_mul, Nat.zero_add, encL_cons, List.set_cons_zero, encL_cons, List.set_append_left _ _ (by rw [h.w]; exact hj), hy]
  | x :: l, i + 1, j, c, y, hi, hj, d, hy => by
    simp only [List.getD_cons_succ] at hy
    have e : (i + 1) * sz + j = (f x).length + (i * sz + j) := by rw [h.w, Nat.succ_mul]; omega
    rw [encL_cons, e, List.set_append_right _ _ (by omega), Nat.add_sub_cancel_left, encL_set (by simpa using hi) hj d hy, List.set_cons_succ, encL_cons]
def eI (n : Int) : List AV := [.sc (.int .i64 n)]
instance : Wid eI 1 := ⟨fun _ => rfl⟩
def eB (b : Bool) : List AV := [.sc (.bool b)]
instance : Wid eB 1 := ⟨fun _ => rfl⟩
/-- A slice of its own within another one, or a struct. -/
def eO {α : Type} (e sz : Nat) (f : α → List AV) (l : List α) : List AV := [.ow e sz l.length (encL f l)]
instance {α : Type} (e sz : Nat) (f : α → List AV) : Wid (eO e sz f) 1 := ⟨fun _ => rfl⟩
/-- One that is only read. -/
def eR {α : Type} (f : α → List AV) (l : List α) : List AV := [.im l.length (encL f l)]
instance {α : Type} (f : α → List AV) : Wid (eR f) 1 := ⟨fun _ => rfl⟩
class Pl {α : Type} (f : α → List AV) : Prop where
  p : ∀ x, (f x).all isPl = true
instance : Pl eI := ⟨fun _ => rfl⟩
instance : Pl eB := ⟨fun _ => rfl⟩
instance {α : Type} (f : α → List AV) : Pl (eR f) := ⟨fun _ => rfl⟩
theorem encL_pl {α : Type} {f : α → List AV} [h : Pl f] : ∀ (l : List α), (encL f l).all isPl = true
  | [] => rfl
  | x :: l => by rw [encL_cons, List.all_append, h.p x, encL_pl l]; rfl

section
variable {P : Program} {X : FuncId → List AV → AV → List AV → Prop} {σ : Nat → AV} {all : Array Oper} {R : (Nat → AV) → Prop}
variable {g : Option (Nat × Bool)} {env : Env} {d t : Nat} {l : List Oper} {ty : TypeId} {pos : String} {af : Array Edge} {α : Type} {f : α → List AV}
theorem WO.len (hg : gg all (look env) g = some true) {x : Operand} {tx e sz n : Nat} {cs : List AV} [hT : SlT P tx e sz] (hx : ov (look env) x = .im n cs) (hn : nrE d env = true) (k : WO P X all l (look ((d, .sc (.int .i64 n)) :: env)) R) : WO P X all (⟨some d, .call { callee := .builtin .len, args := #[x], argTypes := #[tx] }, ty, pos, af, g⟩ :: l) (look env) R :=
  WO.lenI hg hT.ht hx hn k
theorem WO.lenO (hg : gg all (look env) g = some true) {x : Operand} {tx e sz r off n e' sz' m : Nat} {p : List Nat} {cs : List AV} [hT : SlT P tx e sz] (hx : ov (look env) x = .vw r p off n) (hr : getN p (look env r) = some (.ow e' sz' m cs)) (hn : nrE d env = true) (k : WO P X all l (look ((d, .sc (.int .i64 n)) :: env)) R) : WO P X all (⟨some d, .call { callee := .builtin .len, args := #[x], argTypes := #[tx] }, ty, pos, af, g⟩ :: l) (look env) R :=
  WO.lenV hg hT.ht hx hr hn k
theorem WO.len0 (hg : gg all (look env) g = some true) {x : Operand} {tx e sz : Nat} [hT : SlT P tx e sz] (hx : ov (look env) x = .nl) (hn : nrE d env = true) (k : WO P X all l (look ((d, .sc (.int .i64 0)) :: env)) R) : WO P X all (⟨some d, .call { callee := .builtin .len, args := #[x], argTypes := #[tx] }, ty, pos, af, g⟩ :: l) (look env) R :=
  WO.lenN hg hT.ht hx hn k
/-- An element of a slice that is only read. -/
theorem WO.ixI (hg : gg all (look env) g = some true) {x ix : Operand} {tx e sz : Nat} {k0 : IntKind} {i : Int} {xs : List α} [hT : SlT P tx e sz] [hW : Wid f sz] (dv : α) (hx : ov (look env) x = .im xs.length (encL f xs)) (hi : ov (look env) ix = .sc (.int k0 i)) (h0 : 0 ≤ i) (h1 : i < (xs.length : Int)) (hn : nrE d env = true)
    (k : WO P X all l (look ((d, .ip (f (xs.getD i.toNat dv) ++ encL f (xs.drop (i.toNat + 1)))) :: env)) R) : WO P X all (⟨some d, .indexAddr tx x ix, ty, pos, af, g⟩ :: l) (look env) R := by
  have hlt : i.toNat < xs.length := by omega
  have hz := hT.h0
  have hc : i.toNat * sz < (encL f xs).length := by rw [encL_length (sz := sz)]; exact Nat.mul_lt_mul_of_pos_right hlt hz
  have := QO.indexI (P := P) (σ := look env) tx x ix e sz k0 i xs.length (encL f xs) hT.ht hT.hs hi hx h0 h1 hc
  rw [encL_at (sz := sz) hlt dv] at this
  exact WO.q hg (.qo this) hn rfl k
/-- An element of a slice that is owned. -/
theorem WO.ixO (hg : gg all (look env) g = some true) {x ix : Operand} {tx e sz r off n m e' sz' : Nat} {p : List Nat} {k0 : IntKind} {i : Int} {cs : List AV} [hT : SlT P tx e sz] (hx : ov (look env) x = .vw r p off n) (hr : getN p (look env r) = some (.ow e' sz' m cs)) (hl : off + n * sz ≤ cs.length) (hi : ov (look env) ix = .sc (.int k0 i)) (h0 : 0 ≤ i) (h1 : i < (n : Int)) (hrd : Nat.beq r d = false) (hn : nrE d env = true)
    (k : WO P X all l (look ((d, .ad r p (off + i.toNat * sz)) :: env)) R) : WO P X all (⟨some d, .indexAddr tx x ix, ty, pos, af, g⟩ :: l) (look env) R :=
  WO.q hg (.qo (.indexV tx x ix e sz k0 i r off n m e' sz' p cs hT.ht hT.hs hi hx hr hl hT.h0 h0 h1)) hn (by simp [nrA, hrd]) k
theorem WO.fl (hg : gg all (look env) g = some true) {x : Operand} {s fd off : Nat} {c : AV} [hT : FlT P s fd off] (hc : adv (look env) (ov (look env) x) off = some c) (ha : nrA d c = true) (hn : nrE d env = true) (k : WO P X all l (look ((d, c) :: env)) R) : WO P X all (⟨some d, .fieldAddr s x fd, ty, pos, af, g⟩ :: l) (look env) R := by
  obtain ⟨fs, f', n, h1, h2, h3, h4, rfl⟩ := flT_some hT.h
  exact WO.q hg (.qo (.fieldAddr s x fd n fs f' c h1 h2 h3 h4 hc)) hn ha k
theorem WO.flI (hg : gg all (look env) g = some true) {x : Operand} {s fd off : Nat} {cs : List AV} [hT : FlT P s fd off] (hc : ov (look env) x = .ip cs) (hn : nrE d env = true) (k : WO P X all l (look ((d, .ip (cs.drop off)) :: env)) R) : WO P X all (⟨some d, .fieldAddr s x fd, ty, pos, af, g⟩ :: l) (look env) R :=
  WO.fl hg (by rw [hc]; rfl) rfl hn k
theorem WO.flO (hg : gg all (look env) g = some true) {x : Operand} {s fd off r i : Nat} {p : List Nat} {cs : List AV} [hT : FlT P s fd off] (hc : ov (look env) x = .ad r p i) (hr : nodeCells (look env) r p = some cs) (hrd : Nat.beq r d = false) (hn : nrE d env = true) (k : WO P X all l (look ((d, .ad r p (i + off)) :: env)) R) : WO P X all (⟨some d, .fieldAddr s x fd, ty, pos, af, g⟩ :: l) (look env) R :=
  WO.fl hg (by rw [hc]; simp only [adv, hr, Option.map_some]) (by simp [nrA, hrd]) hn k
theorem WO.ldI (hg : gg all (look env) g = some true) {x : Operand} {tx : TypeId} {cs : List AV} {c : AV} [hT : OnT P tx] (hx : ov (look env) x = .ip cs) (hc : cs[0]? = some c) (ha : nrA d c = true) (hn : nrE d env = true) (k : WO P X all l (look ((d, c) :: env)) R) : WO P X all (⟨some d, .load tx x, ty, pos, af, g⟩ :: l) (look env) R :=
  WO.q hg (.qo (.load tx x c (.one c hT.ht (by rw [hx]; exact hc)))) hn ha k
theorem WO.ldIA (hg : gg all (look env) g = some true) {x : Operand} {tx s : Nat} {cs rest : List AV} [hT : AgT P tx s] (hx : ov (look env) x = .ip (cs ++ rest)) (hl : cs.length = s) (ha : nrL d cs = true) (hn : nrE d env = true) (k : WO P X all l (look ((d, .ag cs) :: env)) R) : WO P X all (⟨some d, .load tx x, ty, pos, af, g⟩ :: l) (look env) R :=
  WO.q hg (.qo (.load tx x (.ag cs) (.many cs s hT.ht hT.hs hl hT.h0 (fun k hk => by rw [hx]; simp only [cell]; rw [List.getElem?_append_left (by omega)])))) hn (by simpa only [nrA] using ha) k
/-- A cell of what is owned; what is plain. -/
theorem WO.ldO (hg : gg all (look env) g = some true) {x : Operand} {tx r i : Nat} {p : List Nat} {cs : List AV} {c : AV} [hT : OnT P tx] (hx : ov (look env) x = .ad r p i) (hr : nodeCells (look env) r p = some cs) (hc : cs[i]? = some c) (hp : isPl c = true) (hn : nrE d env = true) (k : WO P X all l (look ((d, c) :: env)) R) : WO P X all (⟨some d, .load tx x, ty, pos, af, g⟩ :: l) (look env) R :=
  WO.q hg (.qo (.load tx x c (.one c hT.ht (by rw [hx]; simp only [cell, hr, Option.bind_some, Nat.add_zero, hc, Option.map_some, refT_pl hp])))) hn (by cases c <;> simp_all [isPl, nrA]) k
/-- A slice within what is owned. -/
theorem WO.ldOw (hg : gg all (look env) g = some true) {x : Operand} {tx r i e sz n : Nat} {p : List Nat} {cs cs' : List AV} [hT : OnT P tx] (hx : ov (look env) x = .ad r p i) (hr : nodeCells (look env) r p = some cs) (hc : cs[i]? = some (.ow e sz n cs')) (hrd : Nat.beq r d = false) (hn : nrE d env = true) (k : WO P X all l (look ((d, .vw r (p ++ [i]) 0 n) :: env)) R) : WO P X all (⟨some d, .load tx x, ty, pos, af, g⟩ :: l) (look env) R :=
  WO.q hg (.qo (.load tx x _ (.one _ hT.ht (by rw [hx]; simp only [cell, hr, Option.bind_some, Nat.add_zero, hc, Option.map_some, refT])))) hn (by simp [nrA, hrd]) k
/-- A struct of plain parts within what is owned. -/
theorem WO.ldOA (hg : gg all (look env) g = some true) {x : Operand} {tx s r i : Nat} {p : List Nat} {cs L : List AV} [hT : AgT P tx s] (hx : ov (look env) x = .ad r p i) (hr : nodeCells (look env) r p = some cs) (hL : (cs.drop i).take s = L) (hl : L.length = s) (hp : L.all isPl = true) (hn : nrE d env = true) (k : WO P X all l (look ((d, .ag L) :: env)) R) : WO P X all (⟨some d, .load tx x, ty, pos, af, g⟩ :: l) (look env) R := by
  refine WO.q hg (.qo (.load tx x (.ag L) (.many L s hT.ht hT.hs hl hT.h0 (fun k hk => ?_)))) hn (by simp only [nrA, nrL_pl hp]) k
  rw [hx]
  simp only [cell, hr, Option.bind_some]
  have hk' : k < L.length := by omega
  have e : L[k]? = cs[i + k]? := by rw [← hL, List.getElem?_take, if_pos hk, List.getElem?_drop]
  rw [← e, List.getElem?_eq_getElem hk', Option.map_some, refT_pl (List.all_eq_true.1 hp _ (List.getElem_mem _))]
/-- A plain value is stored into what is owned. -/
theorem WO.st1 (hg : gg all (look env) g = some true) {x y : Operand} {tx r i e sz n : Nat} {p : List Nat} {cs : List AV} {c : AV} {σ' : Nat → AV} [hT : OnT P tx] (hx : ov (look env) x = .ad r p i) (hy : ov (look env) y = c) (hp : isPl c = true) {nd : AV} (hr : getN p (look env r) = some nd) (hk : (∃ e sz n, nd = .ow e sz n cs) ∨ nd = .op cs) (hi : i < cs.length) (hs : modS (look env) r p (isC r p i) (withKids nd (cs.set i c)) = σ')
    (k : WO P X all l σ' R) : WO P X all (⟨none, .store tx x y, ty, pos, af, g⟩ :: l) (look env) R := by
  refine WO.op (σ1 := putD σ' none .dead) (gg_goes hg) (.store (σ1 := look env) (vs := [c]) (tr := c) rfl hx ?_ (by rw [hy]; exact .plain hp (.nil _)) (by cases c <;> simp_all [isPl, acells]) hT.hs ?_) k
  · unfold nodeCells; rw [hr]; rcases hk with ⟨e, sz, n, rfl⟩ | rfl <;> rfl
  · rw [← hs]; exact .cons hr hk hi (.nil _ _ _ _)
/-! References into what is turned. -/
end
mutual
def nbA (r m : Nat) : AV → Bool
  | .vw r' q _ _ => !(Nat.beq r' r) || Nat.ble q.length m
  | .ad r' q _ => !(Nat.beq r' r) || Nat.ble q.length m
  | .ag cs => nbL r m cs
  | .tu cs => nbL r m cs
  | _ => true
def nbL (r m : Nat) : List AV → Bool
  | [] => true
  | c :: cs => nbA r m c && nbL r m cs
end
def nbE (r m : Nat) : Env → Bool
  | [] => true
  | (_, a) :: e => nbA r m a && nbE r m e
theorem isC_short {r i r' : Nat} {p q : List Nat} (h : (!(Nat.beq r' r) || Nat.ble q.length p.length) = true) : isC r p i r' q = false := by
  unfold isC
  rw [Bool.or_eq_true] at h
  rcases h with h | h
  · have : (r' == r) = false := by
      rw [Bool.eq_false_iff]; intro hb; rw [eq_of_beq hb] at h; simp at h
    rw [this, Bool.false_and]
  · have hl := Nat.le_of_ble_eq_true h
    have : (p ++ [i]).isPrefixOf q = false := by
      rw [Bool.eq_false_iff]; intro hb
      have := (List.isPrefixOf_iff_prefix.1 hb).length_le
      simp at this; omega
    rw [this, Bool.and_false]
mutual
theorem nbA_mask {r i : Nat} {p : List Nat} : ∀ (a : AV), nbA r p.length a = true → mask (isC r p i) a = a
  | .sc _, _ => rfl
  | .nl, _ => rfl
  | .im .., _ => rfl
  | .ow .., _ => rfl
  | .ip _, _ => rfl
  | .op _, _ => rfl
  | .dead, _ => rfl
  | .vw r' q off n, h => by simp only [mask, isC_short h, cond_false]
  | .ad r' q j, h => by simp only [mask, isC_short h, cond_false]
  | .ag cs, h => by simp only [nbA] at h; simp only [mask, nbL_mask cs h]
  | .tu cs, h => by simp only [nbA] at h; simp only [mask, nbL_mask cs h]
theorem nbL_mask {r i : Nat} {p : List Nat} : ∀ (cs : List AV), nbL r p.length cs = true → maskL (isC r p i) cs = cs
  | [], _ => rfl
  | c :: cs, h => by
    simp only [nbL, Bool.and_eq_true] at h
    simp only [maskL, nbA_mask c h.1, nbL_mask cs h.2]
end
theorem nbE_mask {r i : Nat} {p : List Nat} : ∀ (e : Env), nbE r p.length e = true → ∀ t, mask (isC r p i) (look e t) = look e t
  | [], _, t => rfl
  | (k, a) :: e, h, t => by
    simp only [nbE, Bool.and_eq_true] at h
    simp only [look]
    cases Nat.beq k t
    · simp only [cond_false]; exact nbE_mask e h.2 t
    · simp only [cond_true]; exact nbA_mask a h.1
theorem modS_look {r i : Nat} {p : List Nat} {e : Env} {x : AV} (h : nbE r p.length e = true) (hx : nbA r p.length (setN p (look e r) x) = true) : modS (look e) r p (isC r p i) x = look ((r, setN p (look e r) x) :: e) := by
  rw [← look_upd]
  funext t
  simp only [modS]
  by_cases ht : t = r
  · subst ht; rw [upd_same]; exact nbA_mask _ hx
  · rw [upd_ne _ _ _ ht]; exact nbE_mask e h t
def setL {α : Type} (cs : List α) (i : Nat) : List α → List α
  | [] => cs
  | c :: L => setL (cs.set i c) (i + 1) L
theorem setL_length {α : Type} : ∀ (L : List α) (cs : List α) (i : Nat), (setL cs i L).length = cs.length
  | [], cs, i => rfl
  | c :: L, cs, i => by rw [setL, setL_length, List.length_set]
/-- A node whose cells are turned. -/
theorem StoreL.root {r : Nat} : ∀ (vs : List AV) {e : Env} {i : Nat} {nd : AV} {cs : List AV}, nbE r 0 e = true → look e r = nd → ((∃ e sz n, nd = .ow e sz n cs) ∨ nd = .op cs) → i + vs.length ≤ cs.length → ∃ e', StoreL (look e) r [] i vs (look e') ∧ look e' = look ((r, withKids nd (setL cs i vs)) :: e)
  | [], e, i, nd, cs, hn, hl, hk, hi => by
    refine ⟨e, .nil _ _ _ _, ?_⟩
    rw [← look_upd]
    funext t
    by_cases ht : t = r
    · subst ht; rw [upd_same, hl, setL]; rcases hk with ⟨_, _, _, rfl⟩ | rfl <;> rfl
    · rw [upd_ne _ _ _ ht]
  | c :: vs, e, i, nd, cs, hn, hl, hk, hi => by
    simp only [List.length_cons] at hi
    have h1 : modS (look e) r [] (isC r [] i) (withKids nd (cs.set i c)) = look ((r, withKids nd (cs.set i c)) :: e) :=
      modS_look hn (by rcases hk with ⟨_, _, _, rfl⟩ | rfl <;> rfl)
    have hk' : (∃ e sz n, withKids nd (cs.set i c) = .ow e sz n (cs.set i c)) ∨ withKids nd (cs.set i c) = .op (cs.set i c) := by
      rcases hk with ⟨e, sz, n, rfl⟩ | rfl
      · exact .inl ⟨e, sz, n, rfl⟩
      · exact .inr rfl
    obtain ⟨e', g1, g2⟩ := StoreL.root (r := r) vs (e := (r, withKids nd (cs.set i c)) :: e) (i := i + 1) (nd := withKids nd (cs.set i c)) (cs := cs.set i c) (by
      simp only [nbE, hn, Bool.and_true]; rcases hk with ⟨_, _, _, rfl⟩ | rfl <;> rfl) (by simp [look]) hk' (by rw [List.length_set]; omega)
    refine ⟨e', .cons (by simp only [getN]; rw [hl]) hk (by omega) (by rw [h1]; exact g1), ?_⟩
    rw [g2, ← look_upd, ← look_upd, ← look_upd]
    funext t
    by_cases ht : t = r
    · subst ht; rw [upd_same, upd_same, setL]; rcases hk with ⟨_, _, _, rfl⟩ | rfl <;> rfl
    · rw [upd_ne _ _ _ ht, upd_ne _ _ _ ht, upd_ne _ _ _ ht]

/-! A whole tree leaves its register. -/
mutual
/-- Whole: without references, each slice with all its cells. -/
def whA : AV → Bool
  | .sc _ | .nl | .im _ _ | .ip _ | .op _ => true
  | .ow _ sz n cs => Nat.beq cs.length (n * sz)
  | .ag cs => whL cs
  | .tu cs => whL cs
  | _ => false
def whL : List AV → Bool
  | [] => true
  | c :: cs => whA c && whL cs
end
theorem getN_append : ∀ (p q : List Nat) (a : AV), getN (p ++ q) a = (getN p a).bind (getN q)
  | [], q, a => rfl
  | j :: p, q, a => by
    simp only [List.cons_append, getN]
    cases kids a with
    | none => rfl
    | some cs =>
      simp only [Option.bind_some]
      cases cs[j]? with
      | none => rfl
      | some c => simp only [Option.bind_some, getN_append p q c]
theorem kids_lt {cs : List AV} {j : Nat} {c : AV} (h : cs[j]? = some c) : j < cs.length := (List.getElem?_eq_some_iff.1 h).1
theorem getN_setN : ∀ (p : List Nat) {a x y : AV}, getN p a = some x → getN p (setN p a y) = some y
  | [], a, x, y, h => rfl
  | j :: p, a, x, y, h => by
    simp only [getN, Option.bind_eq_some_iff] at h
    obtain ⟨cs, hk, c, hc, h⟩ := h
    simp only [setN, hk, hc, getN, kids_with hk, Option.bind_some, List.getElem?_set_self (kids_lt hc)]
    exact getN_setN p h
theorem withKids_withKids (a : AV) (cs ds : List AV) : withKids (withKids a cs) ds = withKids a ds := by cases a <;> rfl
theorem setN_setN : ∀ (p : List Nat) {a x y z : AV}, getN p a = some x → setN p (setN p a y) z = setN p a z
  | [], a, x, y, z, h => rfl
  | j :: p, a, x, y, z, h => by
    simp only [getN, Option.bind_eq_some_iff] at h
    obtain ⟨cs, hk, c, hc, h⟩ := h
    simp only [setN, hk, hc, kids_with hk, List.getElem?_set_self (kids_lt hc), withKids_withKids, List.set_set, setN_setN p h]
theorem setN_snoc : ∀ (p : List Nat) {a x : AV} {cs : List AV} {j : Nat} {c y : AV}, getN p a = some x → kids x = some cs → cs[j]? = some c → setN (p ++ [j]) a y = setN p a (withKids x (cs.set j y))
  | [], a, x, cs, j, c, y, h, hk, hc => by
    simp only [getN, Option.some.injEq] at h
    subst h
    simp only [List.nil_append, setN, hk, hc]
  | i :: p, a, x, cs, j, c, y, h, hk, hc => by
    simp only [getN, Option.bind_eq_some_iff] at h
    obtain ⟨ds, hd, e, he, h⟩ := h
    simp only [List.cons_append, setN, hd, he, setN_snoc p h hk hc]
theorem withKids_self {a : AV} {cs : List AV} (h : kids a = some cs) : withKids a cs = a := by
  cases a <;> simp_all [kids, withKids]
theorem setN_self : ∀ (p : List Nat) {a x : AV}, getN p a = some x → setN p a x = a
  | [], a, x, h => by simp only [getN, Option.some.injEq] at h; subst h; rfl
  | j :: p, a, x, h => by
    simp only [getN, Option.bind_eq_some_iff] at h
    obtain ⟨cs, hk, c, hc, h⟩ := h
    simp only [setN, hk, hc, setN_self p h]
    have : cs.set j c = cs := by
      obtain ⟨hlt, he⟩ := List.getElem?_eq_some_iff.1 hc
      rw [← he, List.set_getElem_self]
    rw [this]; exact withKids_self hk
theorem setS_setS {σ : Nat → AV} {r : Nat} {p : List Nat} {x y z : AV} (h : getN p (σ r) = some x) : setS (setS σ r p y) r p z = setS σ r p z := by
  funext t
  unfold setS
  by_cases ht : t = r
  · subst ht; simp only [upd_same, setN_setN p h]
  · simp only [upd_ne _ _ _ ht]
mutual
theorem TakeL.whole {r : Nat} : ∀ (a : AV) {σ σ' : Nat → AV} {p : List Nat} {as ts : List AV}, whA a = true → getN p (σ r) = some a → TakeL (setS σ r p (hole a)) as ts σ' → TakeL σ (refT r p a :: as) (a :: ts) σ'
  | .sc v, σ, σ', p, as, ts, hw, hg, k => by
    have : setS σ r p (.sc v) = σ := by
      funext t; unfold setS; by_cases ht : t = r
      · subst ht; rw [upd_same]; exact setN_self p hg
      · rw [upd_ne _ _ _ ht]
    simp only [hole] at k; rw [this] at k; exact .plain rfl k
  | .nl, σ, σ', p, as, ts, hw, hg, k => by
    have : setS σ r p .nl = σ := by
      funext t; unfold setS; by_cases ht : t = r
      · subst ht; rw [upd_same]; exact setN_self p hg
      · rw [upd_ne _ _ _ ht]
    simp only [hole] at k; rw [this] at k; exact .plain rfl k
  | .im n cs, σ, σ', p, as, ts, hw, hg, k => by
    have : setS σ r p (.im n cs) = σ := by
      funext t; unfold setS; by_cases ht : t = r
      · subst ht; rw [upd_same]; exact setN_self p hg
      · rw [upd_ne _ _ _ ht]
    simp only [hole] at k; rw [this] at k; exact .plain rfl k
  | .ip cs, σ, σ', p, as, ts, hw, hg, k => by
    have : setS σ r p (.ip cs) = σ := by
      funext t; unfold setS; by_cases ht : t = r
      · subst ht; rw [upd_same]; exact setN_self p hg
      · rw [upd_ne _ _ _ ht]
    simp only [hole] at k; rw [this] at k; exact .plain rfl k
  | .ow e sz n cs, σ, σ', p, as, ts, hw, hg, k => by
    simp only [hole] at k
    simp only [whA] at hw
    have hl := Nat.eq_of_beq_eq_true hw
    have := TakeL.vw (r := r) (n := n) (p := p) hg (Nat.le_refl _) k
    rw [List.take_of_length_le (by omega)] at this
    simpa only [refT] using this
  | .op cs, σ, σ', p, as, ts, hw, hg, k => by
    simp only [hole] at k
    simpa only [refT] using TakeL.ad hg k
  | .ag cs, σ, σ', p, as, ts, hw, hg, k => by
    simp only [whA] at hw
    simp only [hole] at k
    simp only [refT]
    refine .ag ?_ k
    exact TakeL.wholeL cs (done := []) (rest := cs) (x := .ag cs) hw rfl hg rfl (fun _ => rfl)
  | .tu cs, σ, σ', p, as, ts, hw, hg, k => by
    simp only [whA] at hw
    simp only [hole] at k
    simp only [refT]
    refine .tu ?_ k
    exact TakeL.wholeL cs (done := []) (rest := cs) (x := .tu cs) hw rfl hg rfl (fun _ => rfl)
  | .vw .., _, _, _, _, _, hw, _, _ => by simp [whA] at hw
  | .ad .., _, _, _, _, _, hw, _, _ => by simp [whA] at hw
  | .dead, _, _, _, _, _, hw, _, _ => by simp [whA] at hw
theorem TakeL.wholeL {r : Nat} : ∀ (cs : List AV) {σ : Nat → AV} {p : List Nat} {done rest : List AV} {x : AV}, whL cs = true → rest = cs → getN p (σ r) = some x → kids x = some (done ++ rest) → (∀ ds, kids (withKids x ds) = some ds) → TakeL σ (refL r p done.length cs) cs (setS σ r p (withKids x (done ++ holeL cs)))
  | [], σ, p, done, rest, x, hw, hr, hg, hk, hkk => by
    subst hr
    simp only [refL, holeL, List.append_nil] at hk ⊢
    have : setS σ r p (withKids x done) = σ := by
      funext t; unfold setS; by_cases ht : t = r
      · subst ht; rw [upd_same, withKids_self hk]; exact setN_self p hg
      · rw [upd_ne _ _ _ ht]
    rw [this]; exact .nil _
  | c :: cs, σ, p, done, rest, x, hw, hr, hg, hk, hkk => by
    subst hr
    simp only [whL, Bool.and_eq_true] at hw
    simp only [refL]
    have hc : (done ++ c :: cs)[done.length]? = some c := by simp
    have hgc : getN (p ++ [done.length]) (σ r) = some c := by
      rw [getN_append, hg, Option.bind_some]; simp only [getN, hk, Option.bind_some, hc]
    refine TakeL.whole c hw.1 hgc ?_
    have hset : setS σ r (p ++ [done.length]) (hole c) = setS σ r p (withKids x (done ++ hole c :: cs)) := by
      funext t; unfold setS; by_cases ht : t = r
      · subst ht; rw [upd_same, upd_same, setN_snoc p hg hk hc]; congr 2; simp
      · rw [upd_ne _ _ _ ht, upd_ne _ _ _ ht]
    rw [hset]
    have hg' : getN p (setS σ r p (withKids x (done ++ hole c :: cs)) r) = some (withKids x (done ++ hole c :: cs)) := by
      unfold setS; rw [upd_same]; exact getN_setN p hg
    have ih := TakeL.wholeL cs (σ := setS σ r p (withKids x (done ++ hole c :: cs))) (p := p) (done := done ++ [hole c]) (rest := cs) (x := withKids x (done ++ hole c :: cs)) hw.2 rfl hg' (by rw [hkk]; simp) (fun ds => by rw [withKids_withKids]; exact hkk ds)
    rw [setS_setS hg, withKids_withKids] at ih
    simpa [holeL] using ih
end
end Go.Eng
