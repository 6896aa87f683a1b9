/- The engine, part S: more rules in the form in which they are used. -/
import Derived.Test.YtdihagagelngiaaEngR
namespace Go.Eng
open Go Go.RowKit
set_option linter.unusedVariables false
set_option linter.unusedSimpArgs false

theorem w64 {n : Int} (h0 : -9223372036854775808 ≤ n) (h1 : n ≤ 9223372036854775807) : wrap64 n = n := by unfold wrap64; omega
theorem mask_isU {r : Nat} {p : List Nat} {r' : Nat} {q : List Nat} (h : (!(Nat.beq r' r) || Nat.ble q.length p.length) = true) : isU r p r' q = false := by
  unfold isU
  rw [Bool.or_eq_true] at h
  rcases h with h | h
  · have : (r' == r) = false := by
      rw [Bool.eq_false_iff]; intro hb; rw [eq_of_beq hb] at h; simp at h
    rw [this, Bool.false_and]
  · have hl := Nat.le_of_ble_eq_true h
    have : decide (p.length < q.length) = false := by simp; omega
    rw [this, Bool.and_false, Bool.and_false]
mutual
theorem nbA_maskU {r : Nat} {p : List Nat} : ∀ (a : AV), nbA r p.length a = true → mask (isU r p) a = a
  | .sc _, _ => rfl
  | .nl, _ => rfl
  | .im .., _ => rfl
  | .ow .., _ => rfl
  | .ip _, _ => rfl
  | .op _, _ => rfl
  | .dead, _ => rfl
  | .vw r' q off n, h => by simp only [mask, mask_isU h, cond_false]
  | .ad r' q j, h => by simp only [mask, mask_isU h, cond_false]
  | .ag cs, h => by simp only [nbA] at h; simp only [mask, nbL_maskU cs h]
  | .tu cs, h => by simp only [nbA] at h; simp only [mask, nbL_maskU cs h]
theorem nbL_maskU {r : Nat} {p : List Nat} : ∀ (cs : List AV), nbL r p.length cs = true → maskL (isU r p) cs = cs
  | [], _ => rfl
  | c :: cs, h => by
    simp only [nbL, Bool.and_eq_true] at h
    simp only [maskL, nbA_maskU c h.1, nbL_maskU cs h.2]
end
theorem nbE_maskU {r : Nat} {p : List Nat} : ∀ (e : Env), nbE r p.length e = true → ∀ t, mask (isU r p) (look e t) = look e t
  | [], _, t => rfl
  | (k, a) :: e, h, t => by
    simp only [nbE, Bool.and_eq_true] at h
    simp only [look]
    cases Nat.beq k t
    · simp only [cond_false]; exact nbE_maskU e h.2 t
    · simp only [cond_true]; exact nbA_maskU a h.1
theorem modS_lookU {r : Nat} {p : List Nat} {e : Env} {x : AV} (h : nbE r p.length e = true) (hx : nbA r p.length (setN p (look e r) x) = true) : modS (look e) r p (isU r p) x = look ((r, setN p (look e r) x) :: e) := by
  rw [← look_upd]
  funext t
  simp only [modS]
  by_cases ht : t = r
  · subst ht; rw [upd_same]; exact nbA_maskU _ hx
  · rw [upd_ne _ _ _ ht]; exact nbE_maskU e h t
theorem setS_look {r : Nat} {p : List Nat} {e : Env} {x : AV} : setS (look e) r p x = look ((r, setN p (look e r) x) :: e) := by
  rw [← look_upd]; rfl
theorem hardL_pl : ∀ {cs : List AV}, cs.all isPl = true → hardL cs = cs
  | [], _ => rfl
  | c :: cs, h => by
    simp only [List.all_cons, Bool.and_eq_true] at h
    simp only [hardL, hardL_pl h.2]
    have := h.1
    cases c <;> simp_all [isPl, hard]
theorem FrzL.plains {σ : Nat → AV} : ∀ {as : List AV}, as.all isPlA = true → FrzL σ as as
  | [], _ => .nil
  | a :: as, h => by
    simp only [List.all_cons, Bool.and_eq_true] at h
    have ih := FrzL.plains (σ := σ) h.2
    have h1 := h.1
    cases a
    case ag cs =>
      refine .ag ?_ ih
      simp only [isPlA] at h1
      clear h ih
      induction cs with
      | nil => exact .nil
      | cons c cs ih =>
        simp only [List.all_cons, Bool.and_eq_true] at h1
        exact .cons (.plain c h1.1) (ih h1.2)
    all_goals exact .cons (.plain _ (by simpa only [isPlA] using h1)) ih

section
variable {P : Program} {X : FuncId → List AV → AV → List AV → Prop} {σ : Nat → AV} {all : Array Oper} {R : (Nat → AV) → Prop}
variable {g : Option (Nat × Bool)} {env : Env} {d t : Nat} {l : List Oper} {ty : TypeId} {pos : String} {af : Array Edge} {α : Type} {f : α → List AV}
theorem WO.skip {op : Op} (hg : gg all (look env) g = some false) (hn : nrE d env = true) (k : WO P X all l (look ((d, .tu []) :: env)) R) : WO P X all (⟨some d, op, ty, pos, af, g⟩ :: l) (look env) R := by
  obtain ⟨σ', h1, h2⟩ := k
  refine ⟨σ', .opsSkip (gg_goes hg) ?_, h2⟩
  simp only [putD, put_look hn (show nrA d (.tu []) = true from rfl)]
  exact h1
theorem WO.pick {c x y : Operand} {b : Bool} {av : AV} (hg : gg all (look env) g = some true) (hc : ov (look env) c = .sc (.bool b)) (hx : (bif b then ov (look env) x else ov (look env) y) = av) (hn : nrE d env = true) (ha : nrA d av = true) (k : WO P X all l (look ((d, av) :: env)) R) : WO P X all (⟨some d, .pick c x y, ty, pos, af, g⟩ :: l) (look env) R :=
  WO.q hg (.qo (hx ▸ .pick c x y b hc)) hn ha k
/-- A comparison, the one way or the other. -/
theorem WO.cmp {op : BinOp} {x y : Operand} {tx ty2 : TypeId} {a b : Int} {p : Prop} [Decidable p] (hg : gg all (look env) g = some true) (hx : ov (look env) x = .sc (.int .i64 a)) (hy : ov (look env) y = .sc (.int .i64 b)) (h : bin64 op a b = some (.bool (decide p))) (hn : nrE d env = true)
    (kt : p → WO P X all l (look ((d, .sc (.bool true)) :: env)) R) (kf : ¬ p → WO P X all l (look ((d, .sc (.bool false)) :: env)) R) : WO P X all (⟨some d, .binOp op tx x y ty2, ty, pos, af, g⟩ :: l) (look env) R := by
  refine WO.bin hg hx hy h rfl hn ?_
  by_cases hp : p
  · simpa only [hp, decide_true] using kt hp
  · simpa only [hp, decide_false] using kf hp
theorem WO.cmpT {op : BinOp} {x y : Operand} {tx ty2 : TypeId} {a b : Int} {p : Prop} [Decidable p] (hg : gg all (look env) g = some true) (hx : ov (look env) x = .sc (.int .i64 a)) (hy : ov (look env) y = .sc (.int .i64 b)) (h : bin64 op a b = some (.bool (decide p))) (hn : nrE d env = true) (hp : p)
    (k : WO P X all l (look ((d, .sc (.bool true)) :: env)) R) : WO P X all (⟨some d, .binOp op tx x y ty2, ty, pos, af, g⟩ :: l) (look env) R :=
  WO.cmp hg hx hy h hn (fun _ => k) (fun h => absurd hp h)
theorem WO.cmpF {op : BinOp} {x y : Operand} {tx ty2 : TypeId} {a b : Int} {p : Prop} [Decidable p] (hg : gg all (look env) g = some true) (hx : ov (look env) x = .sc (.int .i64 a)) (hy : ov (look env) y = .sc (.int .i64 b)) (h : bin64 op a b = some (.bool (decide p))) (hn : nrE d env = true) (hp : ¬ p)
    (k : WO P X all l (look ((d, .sc (.bool false)) :: env)) R) : WO P X all (⟨some d, .binOp op tx x y ty2, ty, pos, af, g⟩ :: l) (look env) R :=
  WO.cmp hg hx hy h hn (fun h => absurd h hp) (fun _ => k)
theorem WO.add {x y : Operand} {tx ty2 : TypeId} {a b : Int} (hg : gg all (look env) g = some true) (hx : ov (look env) x = .sc (.int .i64 a)) (hy : ov (look env) y = .sc (.int .i64 b)) (hn : nrE d env = true) (h0 : -9223372036854775808 ≤ a + b) (h1 : a + b ≤ 9223372036854775807)
    (k : WO P X all l (look ((d, .sc (.int .i64 (a + b))) :: env)) R) : WO P X all (⟨some d, .binOp .add tx x y ty2, ty, pos, af, g⟩ :: l) (look env) R :=
  WO.bin hg hx hy (c := .int .i64 (a + b)) (by simp only [bin64, w64 h0 h1]) rfl hn k
theorem WO.sub {x y : Operand} {tx ty2 : TypeId} {a b : Int} (hg : gg all (look env) g = some true) (hx : ov (look env) x = .sc (.int .i64 a)) (hy : ov (look env) y = .sc (.int .i64 b)) (hn : nrE d env = true) (h0 : -9223372036854775808 ≤ a - b) (h1 : a - b ≤ 9223372036854775807)
    (k : WO P X all l (look ((d, .sc (.int .i64 (a - b))) :: env)) R) : WO P X all (⟨some d, .binOp .sub tx x y ty2, ty, pos, af, g⟩ :: l) (look env) R :=
  WO.bin hg hx hy (c := .int .i64 (a - b)) (by simp only [bin64, w64 h0 h1]) rfl hn k
theorem WO.ixN {x ix : Operand} {tx e sz : Nat} {k0 : IntKind} {i : Nat} {xs : List α} [hT : SlT P tx e sz] [hW : Wid f sz] (dv : α) (hg : gg all (look env) g = some true) (hx : ov (look env) x = .im xs.length (encL f xs)) (hi : ov (look env) ix = .sc (.int k0 (i : Int))) (h1 : i < xs.length) (hn : nrE d env = true)
    (k : WO P X all l (look ((d, .ip (f (xs.getD i dv) ++ encL f (xs.drop (i + 1)))) :: env)) R) : WO P X all (⟨some d, .indexAddr tx x ix, ty, pos, af, g⟩ :: l) (look env) R :=
  WO.ixI (f := f) hg dv hx hi (by omega) (by omega) hn k
theorem WO.ixM {x ix : Operand} {tx e sz r n m e' sz' : Nat} {p : List Nat} {k0 : IntKind} {i : Nat} {cs : List AV} [hT : SlT P tx e sz] (hg : gg all (look env) g = some true) (hx : ov (look env) x = .vw r p 0 n) (hr : getN p (look env r) = some (.ow e' sz' m cs)) (hl : n * sz ≤ cs.length) (hi : ov (look env) ix = .sc (.int k0 (i : Int))) (h1 : i < n) (hrd : Nat.beq r d = false) (hn : nrE d env = true)
    (k : WO P X all l (look ((d, .ad r p (i * sz)) :: env)) R) : WO P X all (⟨some d, .indexAddr tx x ix, ty, pos, af, g⟩ :: l) (look env) R := by
  refine WO.ixO hg hx hr (by omega) hi (by omega) (by omega) hrd hn ?_
  simpa using k
/-- The rest of a slice that is only read. -/
theorem WO.slI {x : Operand} {tx e sz : Nat} {lo hi : Option Operand} {i j : Int} {xs : List α} [hT : SlT P tx e sz] [hW : Wid f sz] (hg : gg all (look env) g = some true) (hx : ov (look env) x = .im xs.length (encL f xs)) (hl : bnd (look env) 0 lo = some i) (hh : bnd (look env) xs.length hi = some j) (h0 : 0 ≤ i) (h1 : i ≤ j) (h2 : j ≤ (xs.length : Int)) (hn : nrE d env = true)
    (k : WO P X all l (look ((d, .im ((xs.drop i.toNat).take (j.toNat - i.toNat)).length (encL f ((xs.drop i.toNat).take (j.toNat - i.toNat)))) :: env)) R) : WO P X all (⟨some d, .slice tx x lo hi none, ty, pos, af, g⟩ :: l) (look env) R := by
  have := QO.sliceI (P := P) (σ := look env) tx x lo hi e sz i j xs.length (encL f xs) hT.ht hT.hs hT.h0 hx hl hh h0 h1 h2
  rw [encL_drop (sz := sz), encL_take (sz := sz)] at this
  refine WO.q hg (.qo ?_) hn rfl k
  have e1 : (List.take (j.toNat - i.toNat) (List.drop i.toNat xs)).length = j.toNat - i.toNat := by simp; omega
  rw [e1]
  exact this
/-- A new variable. -/
theorem WO.alloc {e by_ : Nat} {z : Value} {cs : List AV} [hZ : ZrT P e by_ z cs] (hg : gg all (look env) g = some true) (hn : nrE d env = true) (k : WO P X all l (look ((d, .op cs) :: env)) R) : WO P X all (⟨some d, .alloc e, ty, pos, af, g⟩ :: l) (look env) R :=
  WO.q hg (.qo (hZ.hc ▸ .alloc e z hZ.hz hZ.h1)) hn rfl k
theorem TakeL.pls {σ : Nat → AV} : ∀ {cs : List AV}, cs.all isPl = true → TakeL σ cs cs σ
  | [], _ => .nil _
  | c :: cs, hp => by
    simp only [List.all_cons, Bool.and_eq_true] at hp
    exact .plain hp.1 (TakeL.pls hp.2)
theorem WO.boxA {e : Nat} {cs : List AV} (hg : gg all (look env) g = some true) (ht : Nat.blt t HB = true) (hx : look env t = .ag cs) (hp : cs.all isPl = true) (hn : nrE d env = true) (k : WO P X all l (look ((d, .op cs) :: env)) R) : WO P X all (⟨some d, .box e (.tmp t), ty, pos, af, g⟩ :: l) (look env) R := by
  have hT : TakeL (look env) [ov (look env) (.tmp t)] [.ag cs] (look env) := by
    simp only [ov, ht, cond_true, hx, refT, refL_pl hp]
    exact .ag (TakeL.pls hp) (.nil _)
  refine WO.op (σ1 := put (look env) d (.op cs)) (gg_goes hg) (.box rfl rfl hT rfl) ?_
  rw [put_look hn rfl]
  exact k
theorem WO.box1 {e : Nat} {c : AV} {x : Operand} (hg : gg all (look env) g = some true) (hx : ov (look env) x = c) (hp : isPl c = true) (hn : nrE d env = true) (k : WO P X all l (look ((d, .op [c]) :: env)) R) : WO P X all (⟨some d, .box e x, ty, pos, af, g⟩ :: l) (look env) R := by
  refine WO.op (σ1 := put (look env) d (.op [c])) (gg_goes hg) (.box rfl rfl (t := c) (by rw [hx]; exact .plain hp (.nil _)) (by cases c <;> simp_all [isPl, acells])) ?_
  rw [put_look hn rfl]
  exact k
theorem zr_size {e by_ sz : Nat} {z : Value} {zc : List AV} (hZ : ZrT P e by_ z zc) (hz : Nat.beq zc.length sz = true) : z.cells.size = sz := by
  have := congrArg List.length hZ.hc
  rw [Nat.eq_of_beq_eq_true hz] at this
  simpa using this
theorem made_enc {z : Value} {sz : Nat} (hz : z.cells.size = sz) (h0 : 0 < sz) {dv : α} (hd : z.cells.toList.map c1 = f dv) : ∀ (n : Nat), (madeCells z.cells (n * sz)).toList.map c1 = encL f (List.replicate n dv) := by
  intro n
  have hl : (f dv).length = sz := by rw [← hd]; simp [hz]
  have hr : ∀ n, (encL f (List.replicate n dv)).length = n * sz := by
    intro n
    induction n with
    | zero => simp [encL]
    | succ n ih => rw [List.replicate_succ, encL_cons, List.length_append, ih, hl, Nat.succ_mul, Nat.add_comm]
  apply List.ext_getElem
  · simp [madeCells, hr]
  · intro i h1 h2
    rw [hr] at h2
    have h3 : i % sz < sz := Nat.mod_lt _ h0
    simp only [madeCells, Array.toList_map, Array.toList_range, List.map_map, List.getElem_map, List.getElem_range, Function.comp_apply]
    have e1 : c1 (z.cells[i % z.cells.size]!) = (f dv)[i % sz]'(by rw [hl]; exact h3) := by
      subst hz
      rw [getElem!_pos z.cells (i % z.cells.size) h3]
      simp only [← hd, List.getElem_map, Array.getElem_toList]
    rw [e1]
    clear h1 e1
    induction n generalizing i with
    | zero => omega
    | succ n ih =>
      simp only [List.replicate_succ, encL_cons]
      by_cases hi : i < sz
      · rw [List.getElem_append_left (by omega)]
        simp only [Nat.mod_eq_of_lt hi]
      · rw [List.getElem_append_right (by omega)]
        have hi' : i - sz < n * sz := by rw [Nat.succ_mul] at h2; omega
        have hm : (i - sz) % sz = i % sz := by
          conv => rhs; rw [show i = (i - sz) + sz by omega, Nat.add_mod_right]
        have := ih (i - sz) (by rw [hr]; exact hi') hi' (Nat.mod_lt _ h0)
        simp only [hm] at this
        rw [this]
        congr 1
        omega
/-- A slice is made. -/
theorem WO.mk {x y : Operand} {tx e sz by_ n : Nat} {k0 k1 : IntKind} {z : Value} {zc : List AV} [hT : SlT P tx e sz] [hZ : ZrT P e by_ z zc] [hW : Wid f sz] (dv : α) (hg : gg all (look env) g = some true) (hx : ov (look env) x = .sc (.int k0 n)) (hy : ov (look env) y = .sc (.int k1 n)) (hd : zc = f dv) (hb : n * by_ ≤ 140737488355328) (hm : n ≤ maxLen) (hn : nrE d env = true)
    (k : WO P X all l (look ((d, .ow e sz n (encL f (List.replicate n dv))) :: env)) R) : WO P X all (⟨some d, .makeSlice tx x y, ty, pos, af, g⟩ :: l) (look env) R := by
  have hz : z.cells.size = sz := by
    have := congrArg List.length (hZ.hc.trans hd)
    rw [hW.w] at this
    simpa using this
  have := QO.makeSlice (P := P) (σ := look env) tx e sz by_ x y k0 k1 n z hT.ht hT.hs hZ.hb hZ.hz hz hT.h0 hx hy hm hb hZ.h1
  rw [made_enc hz hT.h0 (hZ.hc.trans hd)] at this
  exact WO.q hg (.qo this) hn rfl k
/-- An empty slice. -/
theorem WO.build0 {tx e sz by_ : Nat} {z : Value} {zc : List AV} [hT : SlT P tx e sz] [hZ : ZrT P e by_ z zc] (hg : gg all (look env) g = some true) (hz : Nat.beq zc.length sz = true) (hn : nrE d env = true)
    (k : WO P X all l (look ((d, .ow e sz 0 []) :: env)) R) : WO P X all (⟨some d, .buildSlice tx 0 #[], ty, pos, af, g⟩ :: l) (look env) R := by
  refine WO.op (σ1 := put (look env) d (.ow e sz 0 [])) (gg_goes hg) (.buildS (us := []) rfl rfl hT.ht hT.hs hZ.hz (zr_size hZ hz) hT.h0 (by simp) hZ.h1 (.nil _) ?_) ?_
  · simp [fillA, madeCells]
  · rw [put_look hn rfl]; exact k
theorem hx_tk {n e sz : Nat} {cs : List AV} (ht : Nat.blt t HB = true) (hx : look env t = .ow e sz n cs) (hl : cs.length = n * sz) : TakeL (look env) [ov (look env) (.tmp t)] [.ow e sz n cs] (look ((t, .dead) :: env)) := by
  simp only [ov, ht, cond_true, hx, refT]
  have := TakeL.vw (σ := look env) (σ' := setS (look env) t [] .dead) (r := t) (n := n) (p := []) (e := e) (sz := sz) (m := n) (cs := cs) (as := []) (ts := []) (by simp [getN, hx]) (Nat.le_refl _) (.nil _)
  rw [List.take_of_length_le (by omega)] at this
  have e2 : setS (look env) t [] .dead = look ((t, .dead) :: env) := by rw [← look_upd]; rfl
  rwa [e2] at this
/-- Cells that are only read are put behind. -/
theorem WO.apI {x : Operand} {tx e sz by_ n m : Nat} {z : Value} {cs L zc : List AV} [hT : SlT P tx e sz] [hZ : ZrT P e by_ z zc] (hg : gg all (look env) g = some true) (ht : Nat.blt t HB = true) (hs : look env t = .ow e sz n cs) (hl : cs.length = n * sz) (hx : ov (look env) x = .im m L) (hL : L.length = m * sz) (hz : Nat.beq zc.length sz = true) (h63 : n + m ≤ maxLen) (hby : (n + m) * by_ ≤ 140737488355328) (hn : nrE d env = true)
    (k : WO P X all l (look ((d, .ow e sz (n + m) (cs ++ L)) :: (t, .dead) :: env)) R) : WO P X all (⟨some d, .call { callee := .builtin .append, args := #[.tmp t, x], argTypes := #[tx, tx] }, ty, pos, af, g⟩ :: l) (look env) R := by
  refine WO.op (σ1 := put (look ((t, .dead) :: env)) d (.ow e sz (n + m) (cs ++ L))) (gg_goes hg) (.appendC (z := z) rfl rfl hT.ht hT.hs hZ.hb hZ.hz (zr_size hZ hz) hT.h0 (hx_tk ht hs hl) (.ow n cs) (by rw [hx]; exact .im m L) hL h63 hby) ?_
  rw [put_look (by simp only [nrE, nrA, hn, Bool.and_self]) rfl]
  exact k
/-- A call whose arguments are plain. -/
theorem WO.call {fn : FuncId} {xs : Array Operand} {ts : Array TypeId} {args fin : List AV} {res : AV} (hg : gg all (look env) g = some true) (ha : xs.toList.map (ov (look env)) = args) (hp : args.all isPlA = true) (hf : Ev P X (.fn fn args res fin)) (hn : nrE d env = true) (hd : nrA d res = true)
    (k : WO P X all l (look ((d, res) :: env)) R) : WO P X all (⟨some d, .call { callee := .value (.func fn), args := xs, argTypes := ts }, ty, pos, af, g⟩ :: l) (look env) R :=
  WO.q hg (.qcall rfl (by rw [ha]; exact FrzL.plains hp) hf (.inr (by rw [ha]; exact hp))) hn hd k
/-- A call whose arguments are only read. -/
theorem WO.callF {fn : FuncId} {xs : Array Operand} {ts : Array TypeId} {args fin : List AV} {res : AV} (hg : gg all (look env) g = some true) (ha : FrzL (look env) (xs.toList.map (ov (look env))) args) (hf : Ev P X (.fn fn args res fin)) (hi : noIm res = true) (hn : nrE d env = true) (hd : nrA d res = true)
    (k : WO P X all l (look ((d, res) :: env)) R) : WO P X all (⟨some d, .call { callee := .value (.func fn), args := xs, argTypes := ts }, ty, pos, af, g⟩ :: l) (look env) R :=
  WO.q hg (.qcall rfl ha hf (.inl hi)) hn hd k
/-- A call that turns its first argument. -/
theorem WO.callM {fn : FuncId} {x0 : Operand} {xs : List Operand} {ts : Array TypeId} {e sz n r : Nat} {p : List Nat} {cs : List AV} {as fin : List AV} {t' res : AV} (hg : gg all (look env) g = some true) (hx : ov (look env) x0 = .vw r p 0 n) (hr : getN p (look env r) = some (.ow e sz n cs)) (hl : cs.length = n * sz) (ha : xs.map (ov (look env)) = as) (hp : as.all isPlA = true)
    (hf : Ev P X (.fn fn (.ow e sz n cs :: as) res (t' :: fin))) (hi : (noIm res && noIm t') = true) (hfl : fin.length = as.length) (hne : nbE r p.length env = true) (h1 : nbA r p.length (setN p (look env r) .dead) = true) (h2 : nbA r p.length (setN p (look env r) t') = true) (hd : nrE d ((r, setN p (look env r) t') :: (r, setN p (look env r) .dead) :: env) = true) (hdr : nrA d res = true)
    (k : WO P X all l (look ((d, res) :: (r, setN p (look env r) t') :: (r, setN p (look env r) .dead) :: env)) R) : WO P X all (⟨some d, .call { callee := .value (.func fn), args := (x0 :: xs).toArray, argTypes := ts }, ty, pos, af, g⟩ :: l) (look env) R := by
  let e1 : Env := (r, setN p (look env r) .dead) :: env
  have hlk : look e1 r = setN p (look env r) .dead := by simp [e1, look]
  have hrd : getN p (look e1 r) = some .dead := by rw [hlk]; exact getN_setN p hr
  have hT : TakeF (look env) [.vw r p 0 n] [.ow e sz n cs] (look e1) := by
    have := TakeF.vw (σ := look env) (σ' := setS (look env) r p .dead) (as := []) (ts := []) hr hl (.nil _)
    rwa [setS_look] at this
  have hro : ∀ (as : List AV) {σ' : Nat → AV}, as.all isPlA = true → PassL (look e1) σ' (List.replicate as.length false) as as σ' := by
    intro as
    induction as with
    | nil => intro σ' _; exact .nil _
    | cons a as ih =>
      intro σ' h
      simp only [List.all_cons, Bool.and_eq_true] at h
      exact .ro (FrzL.plains (by simp only [List.all_cons, h.1, List.all_nil, Bool.and_self])) (ih h.2)
  have hbk : ∀ (as bs : List AV) {σ' : Nat → AV}, bs.length = as.length → BackL σ' (List.replicate as.length false) as bs σ' := by
    intro as
    induction as with
    | nil => intro bs σ' h; cases bs with
      | nil => exact .nil _
      | cons b bs => simp at h
    | cons a as ih =>
      intro bs σ' h
      cases bs with
      | nil => simp at h
      | cons b bs => exact .skip (ih bs (by simpa using h))
  have hrl : ∀ (as : List AV), roPl (List.replicate as.length false) as = true ∨ True := fun _ => .inr trivial
  have hno : ∀ (k : Nat) (ts : List AV), owNo (List.replicate k false) ts = true := by
    intro k
    induction k with
    | zero => intro ts; cases ts <;> rfl
    | succ k ih => intro ts; cases ts with
      | nil => rfl
      | cons t ts => simp only [List.replicate_succ, owNo]; exact ih ts
  have hor : ∀ (k : Nat) (as : List AV), owRefs (List.replicate k false) as = [] := by
    intro k
    induction k with
    | zero => intro as; cases as <;> rfl
    | succ k ih => intro as; cases as with
      | nil => rfl
      | cons t ts => simp only [List.replicate_succ, owRefs]; exact ih ts
  simp only [Bool.and_eq_true] at hi
  have hset : setN p (look e1 r) t' = setN p (look env r) t' := by rw [hlk]; exact setN_setN p hr
  have hm : modS (look e1) r p (isU r p) t' = look ((r, setN p (look env r) t') :: e1) := by
    have := modS_lookU (r := r) (p := p) (e := e1) (x := t') (by simp only [e1, nbE, hne, h1, Bool.and_self]) (by rw [hset]; exact h2)
    rwa [hset] at this
  have hov : (x0 :: xs).toArray.toList.map (ov (look env)) = .vw r p 0 n :: as := by simp only [List.map_cons, hx, ha]
  refine WO.op (σ1 := putD (look ((r, setN p (look env r) t') :: e1)) (some d) res) (gg_goes hg) (.call (ms := true :: List.replicate as.length false) (σ1 := look e1) rfl ?_ hf (.inl ⟨hi.1, ?_⟩) ?_ ?_) ?_
  · rw [hov]; exact .own hT (hro as hp)
  · simp only [owNo, hi.2, hno, Bool.and_self]
  · rw [hov]; simp [owRefs, hor, refs, stab, isU]
  · rw [hov]; refine .vw hrd ?_; rw [hm]; exact hbk as fin hfl
  · simp only [putD]
    rw [put_look hd hdr]
    exact k
/-- A plain value is stored into a variable. -/
theorem WO.st {x y : Operand} {tx r i : Nat} {cs cs' : List AV} {v : Value} [hT : OnT P tx] (hg : gg all (look env) g = some true) (hx : ov (look env) x = .ad r [] i) (hy : ov (look env) y = .sc v) (hr : look env r = .op cs) (hi : Nat.blt i cs.length = true) (hne : nbE r 0 env = true) (hc : cs.set i (.sc v) = cs')
    (k : WO P X all l (look ((r, .op cs') :: env)) R) : WO P X all (⟨none, .store tx x y, ty, pos, af, g⟩ :: l) (look env) R := by
  subst hc
  exact WO.st1 (e := 0) (sz := 0) (n := 0) hg hx hy rfl (nd := .op cs) (by rw [← hr]; rfl) (.inr rfl) (Nat.le_of_ble_eq_true hi) (modS_look (p := []) hne rfl) k
theorem WO.stI {x y : Operand} {tx r i n : Nat} {cs cs' L : List AV} [hT : OnT P tx] (hg : gg all (look env) g = some true) (hx : ov (look env) x = .ad r [] i) (hy : ov (look env) y = .im n L) (hr : look env r = .op cs) (hi : Nat.blt i cs.length = true) (hne : nbE r 0 env = true) (hc : cs.set i (.im n L) = cs')
    (k : WO P X all l (look ((r, .op cs') :: env)) R) : WO P X all (⟨none, .store tx x y, ty, pos, af, g⟩ :: l) (look env) R := by
  subst hc
  exact WO.st1 (e := 0) (sz := 0) (n := 0) hg hx hy rfl (nd := .op cs) (by rw [← hr]; rfl) (.inr rfl) (Nat.le_of_ble_eq_true hi) (modS_look (p := []) hne rfl) k
/-- A plain value is stored into a cell of an element of a slice. -/
theorem WO.stE {x y : Operand} {tx r a i j e sz n : Nat} {xs : List α} {v : Value} [hT : OnT P tx] [hW : Wid f sz] (dv z : α) (hg : gg all (look env) g = some true) (hx : ov (look env) x = .ad r [] a) (ha : a = i * sz + j) (hj : j < sz) (hy : ov (look env) y = .sc v) (hr : look env r = .ow e sz n (encL f xs)) (hi : i < xs.length) (hne : nbE r 0 env = true) (hc : (f (xs.getD i dv)).set j (.sc v) = f z)
    (k : WO P X all l (look ((r, .ow e sz n (encL f (xs.set i z))) :: env)) R) : WO P X all (⟨none, .store tx x y, ty, pos, af, g⟩ :: l) (look env) R := by
  have hlt : a < (encL f xs).length := by
    rw [encL_length (sz := sz), ha]
    have : (i + 1) * sz ≤ xs.length * sz := Nat.mul_le_mul_right _ hi
    rw [Nat.succ_mul] at this; omega
  have h2 := encL_set (f := f) (sz := sz) hi hj dv hc
  subst ha
  rw [← h2] at k
  exact WO.st1 (e := e) (sz := sz) (n := n) hg hx hy rfl (nd := .ow e sz n (encL f xs)) (by rw [← hr]; rfl) (.inl ⟨_, _, _, rfl⟩) hlt (modS_look (p := []) hne rfl) k
theorem setL_encL {sz : Nat} [hW : Wid f sz] : ∀ {xs : List α} {i : Nat} {z : α} (hi : i < xs.length), setL (encL f xs) (i * sz) (f z) = encL f (xs.set i z)
  | x :: xs, i, z, hi => by
    have app : ∀ (L cs ds : List AV) (k : Nat), k = cs.length → ∀ m, L.length ≤ ds.length → setL (cs ++ ds) (k + m) L = cs ++ setL ds m L := by
      intro L
      induction L with
      | nil => intro cs ds k hk m h; rfl
      | cons c L ih =>
        intro cs ds k hk m h
        subst hk
        simp only [setL]
        rw [List.set_append_right _ _ (by omega), Nat.add_sub_cancel_left]
        have := ih cs (ds.set m c) cs.length rfl (m + 1) (by rw [List.length_set]; simp at h; omega)
        rw [Nat.add_assoc]; exact this
    have whole : ∀ (L ds es : List AV), L.length = ds.length → setL (ds ++ es) 0 L = L ++ es := by
      have gen : ∀ (L done ds es : List AV), L.length = ds.length → setL (done ++ (ds ++ es)) done.length L = done ++ (L ++ es) := by
        intro L
        induction L with
        | nil => intro done ds es h; cases ds with
          | nil => rfl
          | cons d ds => simp at h
        | cons c L ih =>
          intro done ds es h
          cases ds with
          | nil => simp at h
          | cons d ds =>
            simp only [setL]
            rw [List.set_append_right _ _ (Nat.le_refl _), Nat.sub_self]
            simp only [List.cons_append, List.set_cons_zero]
            have := ih (done ++ [c]) ds es (by simpa using h)
            simpa using this
      intro L ds es h
      exact gen L [] ds es h
    cases i with
    | zero =>
      rw [Nat.zero_mul, encL_cons, List.set_cons_zero, encL_cons]
      exact whole _ _ _ (by rw [hW.w, hW.w])
    | succ i =>
      have hi' : i < xs.length := by simpa using hi
      have e : (i + 1) * sz = (f x).length + i * sz := by rw [hW.w, Nat.succ_mul, Nat.add_comm]
      rw [encL_cons, e, app (f z) (f x) (encL f xs) _ rfl (i * sz) (by
        rw [hW.w, encL_length (sz := sz)]
        exact Nat.le_trans (by omega : sz ≤ 1 * sz) (Nat.mul_le_mul_right _ (by omega))), setL_encL hi', List.set_cons_succ, encL_cons]
/-- A whole element of a slice is stored: a struct of plain parts. -/
theorem WO.stEA {x y : Operand} {tx r a i e sz n : Nat} {xs : List α} [hT : AgT P tx sz] [hW : Wid f sz] (z : α) (hg : gg all (look env) g = some true) (hx : ov (look env) x = .ad r [] a) (ha : a = i * sz) (hy : ov (look env) y = .ag (f z)) (hp : (f z).all isPl = true) (hr : look env r = .ow e sz n (encL f xs)) (hi : i < xs.length) (hne : nbE r 0 env = true)
    (k : WO P X all l (look ((r, .ow e sz n (encL f (xs.set i z))) :: env)) R) : WO P X all (⟨none, .store tx x y, ty, pos, af, g⟩ :: l) (look env) R := by
  have hle : a + (f z).length ≤ (encL f xs).length := by
    rw [encL_length (sz := sz), hW.w, ha]
    have : (i + 1) * sz ≤ xs.length * sz := Nat.mul_le_mul_right _ hi
    rw [Nat.succ_mul] at this; omega
  obtain ⟨e', h1, h2⟩ := StoreL.root (r := r) (f z) (e := env) (i := a) hne hr (.inl ⟨_, _, _, rfl⟩) hle
  refine WO.op (σ1 := putD (look e') none .dead) (gg_goes hg) (.store (σ1 := look env) (vs := f z) (tr := .ag (f z)) rfl hx ?_ (by rw [hy]; exact .ag (TakeL.pls hp) (.nil _)) rfl (by rw [hW.w]; exact hT.hs) h1) ?_
  · simp only [nodeCells, getN, hr]; rfl
  · show WO P X all l (look e') R
    subst ha
    rw [h2, withKids, setL_encL hi]; exact k
/-- A cell of an element of a slice that is owned. -/
theorem WO.ldE {x : Operand} {tx r a i j e sz n : Nat} {xs : List α} {v : Value} [hT : OnT P tx] [hW : Wid f sz] (dv : α) (hg : gg all (look env) g = some true) (hx : ov (look env) x = .ad r [] a) (ha : a = i * sz + j) (hj : j < sz) (hr : look env r = .ow e sz n (encL f xs)) (hi : i < xs.length) (hc : (f (xs.getD i dv))[j]? = some (.sc v)) (hn : nrE d env = true)
    (k : WO P X all l (look ((d, .sc v) :: env)) R) : WO P X all (⟨some d, .load tx x, ty, pos, af, g⟩ :: l) (look env) R := by
  subst ha
  exact WO.ldO (cs := encL f xs) hg hx (by simp only [nodeCells, getN, hr]) (by rw [encL_get (sz := sz) hi hj dv, hc]) rfl hn k
/-- A whole element of a slice that is owned. -/
theorem WO.ldEA {x : Operand} {tx r a i e sz n : Nat} {xs : List α} [hT : AgT P tx sz] [hW : Wid f sz] [hP : Pl f] (dv : α) (hg : gg all (look env) g = some true) (hx : ov (look env) x = .ad r [] a) (ha : a = i * sz) (hr : look env r = .ow e sz n (encL f xs)) (hi : i < xs.length) (hn : nrE d env = true)
    (k : WO P X all l (look ((d, .ag (f (xs.getD i dv))) :: env)) R) : WO P X all (⟨some d, .load tx x, ty, pos, af, g⟩ :: l) (look env) R := by
  subst ha
  refine WO.ldOA (cs := encL f xs) hg hx (by simp only [nodeCells, getN, hr]) (L := f (xs.getD i dv)) ?_ (hW.w _) (hP.p _) hn k
  rw [encL_at (sz := sz) hi dv, List.take_left' (hW.w _)]
/-- A struct of plain parts is stored into a variable. -/
theorem WO.stA {x : Operand} {tx s r : Nat} {cs vs : List AV} [hT : AgT P tx s] (hg : gg all (look env) g = some true) (hx : ov (look env) x = .ad r [] 0) (ht : Nat.blt t HB = true) (hy : look env t = .ag vs) (hp : vs.all isPl = true) (hs : vs.length = s) (hr : look env r = .op cs) (hl : cs.length = s) (hne : nbE r 0 env = true)
    (k : WO P X all l (look ((r, .op vs) :: env)) R) : WO P X all (⟨none, .store tx x (.tmp t), ty, pos, af, g⟩ :: l) (look env) R := by
  subst hs
  obtain ⟨e', h1, h2⟩ := StoreL.root (r := r) vs (e := env) (i := 0) hne hr (.inr rfl) (by omega)
  refine WO.op (σ1 := putD (look e') none .dead) (gg_goes hg) (.store (σ1 := look env) (vs := vs) (tr := .ag vs) rfl hx ?_ (by simp only [ov, ht, cond_true, hy, refT, refL_pl hp]; exact .ag (TakeL.pls hp) (.nil _)) rfl hT.hs h1) ?_
  · simp only [nodeCells, getN, hr]; rfl
  · show WO P X all l (look e') R
    have gen : ∀ (L done ds : List AV), L.length = ds.length → setL (done ++ ds) done.length L = done ++ L := by
      intro L
      induction L with
      | nil => intro done ds h; cases ds with
        | nil => rfl
        | cons d ds => simp at h
      | cons c L ih =>
        intro done ds h
        cases ds with
        | nil => simp at h
        | cons d ds =>
          simp only [setL]
          rw [List.set_append_right _ _ (Nat.le_refl _), Nat.sub_self, List.set_cons_zero]
          have := ih (done ++ [c]) ds (by simpa using h)
          simpa using this
    have h3 := gen vs [] cs hl.symm
    simp only [List.nil_append, List.length_nil] at h3
    rw [h2, withKids, h3]; exact k
end

/-! Loops. -/
section
variable {P : Program} {X : FuncId → List AV → AV → List AV → Prop} {Q : Ex → (Nat → AV) → Prop}
def lpK0 {S : Type} (ev : S → Env) (I : S → Prop) (ms : S → Nat) (s : S) (Q : Ex → (Nat → AV) → Prop) : Ex → (Nat → AV) → Prop
  | .normal, σ => ∃ s', Drop σ (look (ev s')) ∧ I s' ∧ ms s' < ms s
  | e, σ => Q e σ
structure lpK {S : Type} (ev : S → Env) (I : S → Prop) (ms : S → Nat) (s : S) (Q : Ex → (Nat → AV) → Prop) (e : Ex) (σ : Nat → AV) : Prop where
  wr ::
  out : lpK0 ev I ms s Q e σ
theorem lpK.mk {S : Type} {ev : S → Env} {I : S → Prop} {ms : S → Nat} {s : S} {env : Env} (s' : S) (hk : Keep (look env) (ev s')) (hi : I s') (hm : ms s' < ms s) : lpK ev I ms s Q .normal (look env) := ⟨⟨s', hk.drop, hi, hm⟩⟩
theorem lpK.exit {S : Type} {ev : S → Env} {I : S → Prop} {ms : S → Nat} {s : S} {σ : Nat → AV} {id : Nat} (h : Q (.exit id) σ) : lpK ev I ms s Q (.exit id) σ := ⟨h⟩
theorem lpK.ret {S : Type} {ev : S → Env} {I : S → Prop} {ms : S → Nat} {s : S} {σ : Nat → AV} (h : Q .ret σ) : lpK ev I ms s Q .ret σ := ⟨h⟩
theorem WC.loopS {S : Type} (ev : S → Env) (I : S → Prop) (ms : S → Nat) (s0 : S) {env : Env} {a : Code} (h0 : Keep (look env) (ev s0)) (hI : I s0) (h : ∀ s, I s → WC P X a (look (ev s)) (lpK ev I ms s Q)) : WC P X (.loop a) (look env) Q := by
  refine WC.drop h0.drop ?_
  have : ∀ (n : Nat) (s : S), ms s < n → I s → WC P X (.loop a) (look (ev s)) Q := by
    intro n
    induction n with
    | zero => intro s hs; omega
    | succ n ih =>
      intro s hs hi
      obtain ⟨ex, σ', h1, h2⟩ := h s hi
      cases ex with
      | normal =>
        obtain ⟨s', hd, hi', hm⟩ := h2.out
        obtain ⟨ex2, σ2, h3, h4⟩ := WC.drop (P := P) (X := X) hd (ih s' (by omega) hi')
        exact ⟨ex2, σ2, .loopN h1 h3, h4⟩
      | exit id => exact ⟨_, σ', .loopX h1 (by simp), h2.out⟩
      | ret => exact ⟨_, σ', .loopX h1 (by simp), h2.out⟩
  exact this _ s0 (Nat.lt_succ_self _) hI
theorem WC.condT {c : Operand} {a b : Code} {σ : Nat → AV} (hc : ov σ c = .sc (.bool true)) (h : WC P X a σ Q) : WC P X (.cond c a b) σ Q := WC.cond hc (fun _ => h) (fun h => by simp at h)
theorem WC.condF {c : Operand} {a b : Code} {σ : Nat → AV} (hc : ov σ c = .sc (.bool false)) (h : WC P X b σ Q) : WC P X (.cond c a b) σ Q := WC.cond hc (fun h => by simp at h) (fun _ => h)
end
end Go.Eng
