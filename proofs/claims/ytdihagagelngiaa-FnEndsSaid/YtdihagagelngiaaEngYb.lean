/- The engine, part Yb: calls that turn something, beside other steps of a drawn region. -/
import Derived.Test.YtdihagagelngiaaEngY
import Derived.Laws.Small
namespace Go.Eng
open Go Go.RowKit
set_option linter.unusedVariables false
set_option linter.unusedSimpArgs false
theorem nrE_deE {d : Nat} {H : List Nat} : ∀ (e : Env), nrE d e = true → nrE d (deE H e) = true
  | [], _ => rfl
  | (r, a) :: e, h => by
    simp only [nrE, Bool.and_eq_true] at h
    simp only [deE]
    cases H.contains r
    · simp only [cond_false, nrE, h.1, nrE_deE e h.2, Bool.and_self]
    · exact nrE_deE e h.2
theorem nbE_deE {d m : Nat} {H : List Nat} : ∀ (e : Env), nbE d m e = true → nbE d m (deE H e) = true
  | [], _ => rfl
  | (r, a) :: e, h => by
    simp only [nbE, Bool.and_eq_true] at h
    simp only [deE]
    cases H.contains r
    · simp only [cond_false, nbE, h.1, nbE_deE e h.2, Bool.and_self]
    · exact nbE_deE e h.2
section
variable {P : Program} {X : FuncId → List AV → AV → List AV → Prop} {all : Array Oper} {ri : RI} {l : List Nat} {R : (Nat → AV) → Prop}
variable {g : Option (Nat × Bool)} {env : Env} {d t i : Nat} {ty : TypeId} {pos : String} {af : Array Edge}
/-- A call that turns what its first argument, a pointer, leads to, beside others. -/
theorem WD.callD {fn : FuncId} {x0 : Operand} {xs : List Operand} {ts : Array TypeId} {r : Nat} {cs cs' : List AV} {az fin : List AV} {res : AV} {HD H : List Nat} {gm : Bool} (hi : all[i]? = some ⟨some d, .call { callee := .value (.func fn), args := (x0 :: xs).toArray, argTypes := ts }, ty, pos, af, g⟩) (hq : ri.quiet.contains i = false) (hT : gTn ri.gen i = some [r]) (ht : ri.tab[i]? = some (HD, H, gm))
    (hg : gg all (look (deE H env)) g = some true) (hx : ov (look (deE H env)) x0 = .ad r [] 0) (hr : look (deE H env) r = .op cs) (hr2 : noRf (look env r) = true) (ha : xs.map (ov (look (deE H env))) = az) (hp : az.all isPlA = true)
    (hf : Ev P X (.fn fn (.op cs :: az) res (.op cs' :: fin))) (hfl : fin.length = az.length) (hne : nbE r 0 env = true) (hrd : Nat.beq r d = false) (hd : nrE d env = true) (hd2 : look env d = .dead) (hdr : nrA d res = true) (hok : okA (badD d HD H gm) res = true) (hc : chkE [d] H env = true)
    (k : WD P X all ri l (look ((d, res) :: (r, .op cs') :: env)) R) : WD P X all ri (i :: l) (look env) R := by
  have hne' : Nat.beq d r = false := by
    cases h : Nat.beq d r
    · rfl
    · rw [Nat.eq_of_beq_eq_true h] at hrd; simp at hrd
  refine WD.gen [(d, res), (r, .op cs')] hi hq hT ht rfl ?_ ?_ ?_ ?_ ?_ ?_ hc (.cons _ (.cons _ (.nil _))) k
  · refine WO.callD hg hx hr ha hp hf hfl (nbE_deE env hne) (nrE_deE env hd) hdr (WO.nil (WK.mk' (.cons _ (.cons _ (.nil _)))))
  · simp
  · simp
  · simp only [Option.toList, List.all_cons, List.all_nil, hd, look, Nat.beq_refl, cond_true, hok, Bool.and_self]
  · exact ⟨hd2, trivial⟩
  · simp only [List.all_cons, List.all_nil, hr2, look, hne', cond_false, Nat.beq_refl, cond_true, noRf, Bool.and_self]
/-- The same, and what it gives is only read from now on. -/
theorem WD.callDH {fn : FuncId} {x0 : Operand} {xs : List Operand} {ts : Array TypeId} {r e sz n : Nat} {cs cs' cs0 : List AV} {az fin : List AV} {HD H : List Nat} {gm : Bool} (hi : all[i]? = some ⟨some d, .call { callee := .value (.func fn), args := (x0 :: xs).toArray, argTypes := ts }, ty, pos, af, g⟩) (hq : ri.quiet.contains i = false) (hT : gTn ri.gen i = some [r]) (ht : ri.tab[i]? = some (HD, H, gm))
    (hg : gg all (look (deE H env)) g = some true) (hx : ov (look (deE H env)) x0 = .ad r [] 0) (hr : look (deE H env) r = .op cs) (hr2 : noRf (look env r) = true) (ha : xs.map (ov (look (deE H env))) = az) (hp : az.all isPlA = true)
    (hf : Ev P X (.fn fn (.op cs :: az) (.ow e sz n cs0) (.op cs' :: fin))) (hp0 : cs0.all isPl = true) (hfl : fin.length = az.length) (hne : nbE r 0 env = true) (hrd : Nat.beq r d = false) (hd : nrE d env = true) (hd2 : look env d = .dead) (hc : chkE [d] H env = true)
    (k : WD P X all ri l (look ((d, .im n cs0) :: (r, .op cs') :: env)) R) : WD P X all ri (i :: l) (look env) R := by
  have hne' : Nat.beq d r = false := by
    cases h : Nat.beq d r
    · rfl
    · rw [Nat.eq_of_beq_eq_true h] at hrd; simp at hrd
  refine WD.gen [(d, .im n cs0), (r, .op cs')] hi hq hT ht rfl ?_ ?_ ?_ ?_ ?_ ?_ hc (.cons _ (.cons _ (.nil _))) k
  · refine WO.callD hg hx hr ha hp hf hfl (nbE_deE env hne) (nrE_deE env hd) rfl ?_
    refine WO.hard (r := d) (p := []) (x := .ow e sz n cs0) (y := .im n cs0) (by simp only [getN, look, Nat.beq_refl, cond_true]) rfl (by simp only [setN, Eng.hard, hardL_pl hp0]) ?_
    rw [look_dup]
    exact WO.nil (WK.mk' (.cons _ (.cons _ (.nil _))))
  · simp
  · simp
  · simp only [Option.toList, List.all_cons, List.all_nil, hd, look, Nat.beq_refl, cond_true, okA, Bool.and_self]
  · exact ⟨hd2, trivial⟩
  · simp only [List.all_cons, List.all_nil, hr2, look, hne', cond_false, Nat.beq_refl, cond_true, noRf, Bool.and_self]
end
section
variable {P : Program} {X : FuncId → List AV → AV → List AV → Prop} {all : Array Oper} {R : (Nat → AV) → Prop}
variable {g : Option (Nat × Bool)} {env : Env} {d t i : Nat} {l : List Oper} {ty : TypeId} {pos : String} {af : Array Edge}
theorem WO.callDH {fn : FuncId} {x0 : Operand} {xs : List Operand} {ts : Array TypeId} {r e sz n : Nat} {cs cs' cs0 : List AV} {az fin : List AV} (hg : gg all (look env) g = some true) (hx : ov (look env) x0 = .ad r [] 0) (hr : look env r = .op cs) (ha : xs.map (ov (look env)) = az) (hp : az.all isPlA = true)
    (hf : Ev P X (.fn fn (.op cs :: az) (.ow e sz n cs0) (.op cs' :: fin))) (hp0 : cs0.all isPl = true) (hfl : fin.length = az.length) (hne : nbE r 0 env = true) (hd : nrE d env = true)
    (k : WO P X all l (look ((d, .im n cs0) :: (r, .op cs') :: env)) R) : WO P X all (⟨some d, .call { callee := .value (.func fn), args := (x0 :: xs).toArray, argTypes := ts }, ty, pos, af, g⟩ :: l) (look env) R := by
  refine WO.callD hg hx hr ha hp hf hfl hne hd rfl ?_
  refine WO.hard (r := d) (p := []) (x := .ow e sz n cs0) (y := .im n cs0) (by simp only [getN, look, Nat.beq_refl, cond_true]) rfl (by simp only [setN, Eng.hard, hardL_pl hp0]) ?_
  rw [look_dup]
  exact k
theorem TakeL.plsA {σ : Nat → AV} : ∀ {cs : List AV}, cs.all isPlA = true → TakeL σ cs cs σ
  | [], _ => .nil _
  | c :: cs, hp => by
    simp only [List.all_cons, Bool.and_eq_true] at hp
    cases c with
    | ag ds => exact .ag (TakeL.pls (by simpa only [isPlA] using hp.1)) (TakeL.plsA hp.2)
    | _ => exact .plain (by simpa only [isPlA] using hp.1) (TakeL.plsA hp.2)
/-- A slice of plain parts, structs among them, is built. -/
theorem WO.bsA {tx e sz by_ n : Nat} {z : Value} {zc us cs : List AV} {parts : Array (Nat × Operand)} [hT : SlT P tx e sz] [hZ : ZrT P e by_ z zc] (hg : gg all (look env) g = some true) (hu : (parts.toList.map fun x => ov (look env) x.2) = us) (hp : us.all isPlA = true) (hz : Nat.beq zc.length sz = true) (hl : Nat.ble (n * sz) 16777216 = true) (hf : fillA (fun i => some (i * sz, sz)) ((madeCells z.cells (n * sz)).toList.map c1) ((parts.toList.map (·.1)).zip us) = some cs) (hn : nrE d env = true)
    (k : WO P X all l (look ((d, .ow e sz n cs) :: env)) R) : WO P X all (⟨some d, .buildSlice tx n parts, ty, pos, af, g⟩ :: l) (look env) R := by
  refine WO.op (σ1 := put (look env) d (.ow e sz n cs)) (gg_goes hg) (.buildS (us := us) rfl rfl hT.ht hT.hs hZ.hz (zr_size hZ hz) hT.h0 (Nat.le_of_ble_eq_true hl) hZ.h1 (by rw [hu]; exact TakeL.plsA hp) hf) ?_
  rw [put_look hn rfl]; exact k
end
section
variable {P : Program} {X : FuncId → List AV → AV → List AV → Prop} {all : Array Oper} {R : (Nat → AV) → Prop} {ri : RI} {li : List Nat}
variable {g : Option (Nat × Bool)} {env : Env} {d t i : Nat} {l : List Oper} {ty : TypeId} {pos : String} {af : Array Edge}
/-- A call that answers a question: both ways. -/
theorem WO.callB {Q : Prop} {fn : FuncId} {xs : Array Operand} {ts : Array TypeId} {args fin : List AV} (hg : gg all (look env) g = some true) (ha : xs.toList.map (ov (look env)) = args) (hp : args.all isPlA = true) (hf : ∀ {r : Bool}, (r = true ↔ Q) → Ev P X (.fn fn args (.sc (.bool r)) fin)) (hn : nrE d env = true)
    (kt : Q → WO P X all l (look ((d, .sc (.bool true)) :: env)) R) (kf : ¬ Q → WO P X all l (look ((d, .sc (.bool false)) :: env)) R) : WO P X all (⟨some d, .call { callee := .value (.func fn), args := xs, argTypes := ts }, ty, pos, af, g⟩ :: l) (look env) R := by
  by_cases hq : Q
  · exact WO.call hg ha hp (hf (r := true) (by simp [hq])) hn rfl (kt hq)
  · exact WO.call hg ha hp (hf (r := false) (by simp [hq])) hn rfl (kf hq)
theorem WO.callFB {Q : Prop} {fn : FuncId} {xs : Array Operand} {ts : Array TypeId} {args fin : List AV} (hg : gg all (look env) g = some true) (ha : FrzL (look env) (xs.toList.map (ov (look env))) args) (hf : ∀ {r : Bool}, (r = true ↔ Q) → Ev P X (.fn fn args (.sc (.bool r)) fin)) (hn : nrE d env = true)
    (kt : Q → WO P X all l (look ((d, .sc (.bool true)) :: env)) R) (kf : ¬ Q → WO P X all l (look ((d, .sc (.bool false)) :: env)) R) : WO P X all (⟨some d, .call { callee := .value (.func fn), args := xs, argTypes := ts }, ty, pos, af, g⟩ :: l) (look env) R := by
  by_cases hq : Q
  · exact WO.callF hg ha (hf (r := true) (by simp [hq])) rfl hn rfl (kt hq)
  · exact WO.callF hg ha (hf (r := false) (by simp [hq])) rfl hn rfl (kf hq)
theorem WD.callB {Q : Prop} {HD H : List Nat} {gm : Bool} {fn : FuncId} {xs : Array Operand} {ts : Array TypeId} {args fin : List AV} (hi : all[i]? = some ⟨some d, .call { callee := .value (.func fn), args := xs, argTypes := ts }, ty, pos, af, g⟩) (hq : ri.quiet.contains i = true) (hq2 : gTn ri.gen i = none) (ht : ri.tab[i]? = some (HD, H, gm)) (hg : gg all (look (deE H env)) g = some true) (ha : xs.toList.map (ov (look (deE H env))) = args) (hp : args.all isPlA = true) (hf : ∀ {r : Bool}, (r = true ↔ Q) → Ev P X (.fn fn args (.sc (.bool r)) fin)) (h1 : look env d = .dead) (h2 : nrE d env = true)
    (kt : Q → WD P X all ri li (look ((d, .sc (.bool true)) :: env)) R) (kf : ¬ Q → WD P X all ri li (look ((d, .sc (.bool false)) :: env)) R) : WD P X all ri (i :: li) (look env) R := by
  by_cases hQ : Q
  · exact WD.q hi hq hq2 ht hg (QE.call ha hp (hf (r := true) (by simp [hQ]))) h1 h2 rfl (kt hQ)
  · exact WD.q hi hq hq2 ht hg (QE.call ha hp (hf (r := false) (by simp [hQ]))) h1 h2 rfl (kf hQ)
/-- A call that is ordered against all others, in a drawn region, is taken by WD.mut; a quiet one by this. -/
theorem WD.call {HD H : List Nat} {gm : Bool} {fn : FuncId} {xs : Array Operand} {ts : Array TypeId} {args fin : List AV} {res : AV} (hi : all[i]? = some ⟨some d, .call { callee := .value (.func fn), args := xs, argTypes := ts }, ty, pos, af, g⟩) (hq : ri.quiet.contains i = true) (hq2 : gTn ri.gen i = none) (ht : ri.tab[i]? = some (HD, H, gm)) (hg : gg all (look (deE H env)) g = some true) (ha : xs.toList.map (ov (look (deE H env))) = args) (hp : args.all isPlA = true) (hf : Ev P X (.fn fn args res fin)) (h1 : look env d = .dead) (h2 : nrE d env = true) (h3 : okA (badD d HD H gm) res = true)
    (k : WD P X all ri li (look ((d, res) :: env)) R) : WD P X all ri (i :: li) (look env) R :=
  WD.q hi hq hq2 ht hg (QE.call ha hp hf) h1 h2 h3 k
theorem WD.cmp {o : BinOp} {x y : Operand} {tx ty2 : TypeId} {a b : Int} {p : Prop} [Decidable p] {HD H : List Nat} {gm : Bool} (hi : all[i]? = some ⟨some d, .binOp o tx x y ty2, ty, pos, af, g⟩) (hq : ri.quiet.contains i = true) (hq2 : gTn ri.gen i = none) (ht : ri.tab[i]? = some (HD, H, gm)) (hg : gg all (look (deE H env)) g = some true) (hx : ov (look (deE H env)) x = .sc (.int .i64 a)) (hy : ov (look (deE H env)) y = .sc (.int .i64 b)) (h : bin64 o a b = some (.bool (decide p))) (h1 : look env d = .dead) (h2 : nrE d env = true)
    (kt : p → WD P X all ri li (look ((d, .sc (.bool true)) :: env)) R) (kf : ¬ p → WD P X all ri li (look ((d, .sc (.bool false)) :: env)) R) : WD P X all ri (i :: li) (look env) R := by
  by_cases hp : p
  · exact WD.q hi hq hq2 ht hg (QE.cmpT hx hy h hp) h1 h2 rfl (kt hp)
  · exact WD.q hi hq hq2 ht hg (QE.cmpF hx hy h hp) h1 h2 rfl (kf hp)
/-- Truths are compared. -/
def binT (op : BinOp) (a b : Bool) : Option Bool :=
  match op with
  | .eql => some (a == b)
  | .neq => some (a != b)
  | _ => none
theorem qo_binT {σ : Nat → AV} {op : BinOp} {x y : Operand} {tx : TypeId} {a b c : Bool} (hu : P.underlying tx = some .bool) (hx : ov σ x = .sc (.bool a)) (hy : ov σ y = .sc (.bool b)) (h : binT op a b = some c) : QO P σ (.binOp op tx x y ty) (.sc (.bool c)) := by
  refine .pure _ (.bool c) fun ρ o w ho hρ => ?_
  have e1 := hρ x _ (by rw [hx]; rfl)
  have e2 := hρ y _ (by rw [hy]; rfl)
  have hg : (eqGuard op tx x y (.bool a) (.bool b)).run P w = .ok () w := by
    unfold eqGuard
    cases op <;> simp only [binT, reduceCtorEq] at h <;> rfl
  have h1 : (binOp op tx (.bool a) (.bool b)).run P w = .ok (.bool c) w := by
    cases op <;> simp only [binT, reduceCtorEq, Option.some.injEq] at h <;> subst h <;> simp [binOp, run_equal_bool w tx a b hu, bne]
  simp only [execOp, ho, e1, e2, Sem.run_bind, hg, Result.andThen_ok, h1, Sem.run_pure]
theorem QE.binT {op : BinOp} {x y : Operand} {tx ty2 : TypeId} {a b c : Bool} (hu : P.underlying tx = some .bool) (hx : ov (look env) x = .sc (.bool a)) (hy : ov (look env) y = .sc (.bool b)) (h : Eng.binT op a b = some c) : Ev P X (.qe ⟨some d, .binOp op tx x y ty2, ty, pos, af, g⟩ (look env) (.sc (.bool c))) := .qo (qo_binT hu hx hy h)
theorem WO.binT {op : BinOp} {x y : Operand} {tx ty2 : TypeId} {a b c : Bool} (hg : gg all (look env) g = some true) (hu : P.underlying tx = some .bool) (hx : ov (look env) x = .sc (.bool a)) (hy : ov (look env) y = .sc (.bool b)) (h : Eng.binT op a b = some c) (hn : nrE d env = true) (k : WO P X all l (look ((d, .sc (.bool c)) :: env)) R) : WO P X all (⟨some d, .binOp op tx x y ty2, ty, pos, af, g⟩ :: l) (look env) R := WO.q hg (QE.binT hu hx hy h) hn rfl k
/-- A variable of plain parts, only read. -/
theorem frzA {σ : Nat → AV} {r : Nat} {cs : List AV} (h : σ r = .op cs) (hp : cs.all isPl = true) : Frz σ (.ad r [] 0) (.ip cs) := by
  have := Frz.ad (σ := σ) r 0 [] cs (by simp [nodeCells, getN, h])
  rwa [List.drop_zero, hardL_pl hp] at this
end
end Go.Eng
