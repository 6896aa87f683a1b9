/- The engine: noughts behind own slices; what is only read behind a pointer, cut. -/
import Derived.Test.YtbhdobjjhkkpkaaEngB4
namespace Go.Eng
open Go Go.RowKit
set_option linter.unusedVariables false
set_option linter.unusedSimpArgs false
theorem zeros_enc {α : Type} {f : α → List AV} {dv : α} {c : AV} (hf : f dv = [c]) {z : Value} (hz : z.cells.toList.map c1 = [c]) (m : Nat) : (Builtin.zeroCells z.cells m).toList.map c1 = encL f (List.replicate m dv) := by
  have hs : z.cells.size = 1 := by have := congrArg List.length hz; simpa using this
  have h0 : c1 z.cells[0]! = c := by
    rw [getElem!_pos z.cells 0 (by omega)]
    have := congrArg (fun l => l[0]?) hz
    simpa [hs] using this
  have h1 : (Builtin.zeroCells z.cells m).toList.map c1 = List.replicate m c := by
    simp only [Builtin.zeroCells, hs, Nat.mod_one, Nat.mul_one, Array.toList_map, List.map_map]
    refine List.eq_replicate_iff.2 ⟨by simp, fun b hb => ?_⟩
    obtain ⟨i, -, rfl⟩ := List.mem_map.1 hb
    exact h0
  rw [h1]
  induction m with
  | zero => rfl
  | succ m ih =>
    rw [List.replicate_succ, List.replicate_succ, encL_cons, hf]
    rw [ih (by
      simp only [Builtin.zeroCells, hs, Nat.mod_one, Nat.mul_one, Array.toList_map, List.map_map]
      refine List.eq_replicate_iff.2 ⟨by simp, fun b hb => ?_⟩
      obtain ⟨i, -, rfl⟩ := List.mem_map.1 hb
      exact h0)]
    rfl
theorem zeros_int (m : Nat) : (Builtin.zeroCells (Value.int .i64 0).cells m).toList.map c1 = encL eI (List.replicate m 0) := zeros_enc (f := eI) (dv := (0 : Int)) rfl rfl m
section
variable {P : Program} {X : FuncId → List AV → AV → List AV → Prop} {all : Array Oper} {R : (Nat → AV) → Prop}
variable {g : Option (Nat × Bool)} {env : Env} {d t i : Nat} {l : List Oper} {ty : TypeId} {pos : String} {af : Array Edge}
/-- Noughts behind what a register owns. -/
theorem WO.apZ {s x : Operand} {tx tn e by_ n m r : Nat} {kn k : IntKind} {zc cs : List AV} [hT : SlT P tx e 1] [hZ : ZrT P e by_ (.int .i64 0) zc] [hN : NmT P tn kn] (hg : gg all (look env) g = some true) (hs : ov (look env) s = .vw r [] 0 n) (hr : look env r = .ow e 1 n cs) (hl : cs.length = n * 1) (hx : ov (look env) x = .sc (.int k (m : Int))) (h63 : n + m ≤ maxLen) (hby : (n + m) * by_ ≤ 140737488355328) (hn : nrE d env = true)
    (hk : WO P X all l (look ((d, .ow e 1 (n + m) (cs ++ encL eI (List.replicate m 0))) :: (r, .dead) :: env)) R) : WO P X all (⟨some d, .call { callee := .builtin .append, args := #[s, x], argTypes := #[tx, tn] }, ty, pos, af, g⟩ :: l) (look env) R := by
  refine WO.op (σ1 := put (look ((r, .dead) :: env)) d (.ow e 1 (n + m) (cs ++ encL eI (List.replicate m 0)))) (gg_goes hg) ?_ ?_
  · rw [← zeros_int]
    exact .appendZ (z := .int .i64 0) rfl rfl hT.ht hN.h hT.hs hZ.hb hZ.hz rfl hT.h0 hZ.h1 (by rw [hs]; exact tkV hr hl (.nil _)) (.ow n cs) hx h63 hby
  · rw [put_look (by simp only [nrE, nrA, hn, Bool.and_self]) rfl]
    exact hk
/-- Noughts behind an own slice in a cell of a variable. -/
theorem WO.apZP {s x : Operand} {tx tn e by_ n m r j : Nat} {kn k : IntKind} {zc cs cs' ds : List AV} [hT : SlT P tx e 1] [hZ : ZrT P e by_ (.int .i64 0) zc] [hN : NmT P tn kn] (hg : gg all (look env) g = some true) (hs : ov (look env) s = .vw r [j] 0 n) (hr : look env r = .op ds) (hj : ds[j]? = some (.ow e 1 n cs)) (hl : cs.length = n * 1) (hx : ov (look env) x = .sc (.int k (m : Int))) (h63 : n + m ≤ maxLen) (hby : (n + m) * by_ ≤ 140737488355328) (hn : nrE d env = true) (hd : ds.set j .dead = cs') (hnr : nrL d cs' = true)
    (hk : WO P X all l (look ((d, .ow e 1 (n + m) (cs ++ encL eI (List.replicate m 0))) :: (r, .op cs') :: env)) R) : WO P X all (⟨some d, .call { callee := .builtin .append, args := #[s, x], argTypes := #[tx, tn] }, ty, pos, af, g⟩ :: l) (look env) R := by
  have e1 : setS (look env) r [j] .dead = look ((r, .op cs') :: env) := by
    rw [← look_upd]; simp only [setS, hr, setN, kids, hj, withKids, hd]
  have h1 : TakeL (look env) [.vw r [j] 0 n] [.ow e 1 n cs] (look ((r, .op cs') :: env)) := by
    have := TakeL.vw (σ := look env) (σ' := look ((r, .op cs') :: env)) (r := r) (n := n) (p := [j]) (e := e) (sz := 1) (m := n) (cs := cs) (as := []) (ts := []) (by simp [getN, hr, kids, hj]) (Nat.le_refl _) (by rw [e1]; exact .nil _)
    rwa [List.take_of_length_le (by omega)] at this
  refine WO.op (σ1 := put (look ((r, .op cs') :: env)) d (.ow e 1 (n + m) (cs ++ encL eI (List.replicate m 0)))) (gg_goes hg) ?_ ?_
  · rw [← zeros_int]
    exact .appendZ (z := .int .i64 0) rfl rfl hT.ht hN.h hT.hs hZ.hb hZ.hz rfl hT.h0 hZ.h1 (by rw [hs]; exact h1) (.ow n cs) hx h63 hby
  · rw [put_look (by simp only [nrE, nrA, hn, hnr, Bool.and_self]) rfl]
    exact hk
end
section
variable {P : Program} {X : FuncId → List AV → AV → List AV → Prop} {all : Array Oper} {R : (Nat → AV) → Prop}
variable {g : Option (Nat × Bool)} {env : Env} {d t i : Nat} {l : List Oper} {ty : TypeId} {pos : String} {af : Array Edge}
theorem setL_app : ∀ (L done ds : List AV), L.length = ds.length → setL (done ++ ds) done.length L = done ++ L
  | [], done, ds, h => by
    have : ds = [] := List.eq_nil_of_length_eq_zero (by simpa using h.symm)
    subst this; rfl
  | c :: L, done, [], h => by simp at h
  | c :: L, done, x :: ds, h => by
    simp only [setL]
    have e1 : (done ++ x :: ds).set done.length c = (done ++ [c]) ++ ds := by simp
    have e2 : done.length + 1 = (done ++ [c]).length := by simp
    rw [e1, e2, setL_app L (done ++ [c]) ds (by simpa using h)]
    simp
theorem setL_all {L ds : List AV} (h : L.length = ds.length) : setL ds 0 L = L := by
  have := setL_app L [] ds h
  simpa using this
/-- A struct with own parts is stored into a variable: what is owned goes there. -/
theorem WO.stG {x y : Operand} {tx s r : Nat} {az vs cs : List AV} {env1 : Env} [hT : AgT P tx s] (hg : gg all (look env) g = some true) (hx : ov (look env) x = .ad r [] 0) (hy : ov (look env) y = .ag az) (hTk : TakeL (look env) [.ag az] [.ag vs] (look env1)) (hr : look env1 r = .op cs) (hl : Nat.beq cs.length s = true) (hs : Nat.beq vs.length s = true) (hne : nbE r 0 env1 = true)
    (k : WO P X all l (look ((r, .op vs) :: env1)) R) : WO P X all (⟨none, .store tx x y, ty, pos, af, g⟩ :: l) (look env) R := by
  have hl := Nat.eq_of_beq_eq_true hl
  have hs := Nat.eq_of_beq_eq_true hs
  obtain ⟨e', h1, h2⟩ := StoreL.root (r := r) vs (e := env1) (i := 0) hne hr (.inr rfl) (by omega)
  refine WO.op (σ1 := putD (look e') none .dead) (gg_goes hg) (.store (σ1 := look env1) (vs := vs) (tr := .ag vs) rfl hx ?_ (by rw [hy]; exact hTk) rfl (by rw [hs]; exact hT.hs) h1) ?_
  · simp only [nodeCells, getN, hr]; rfl
  · show WO P X all l (look e') R
    rw [h2]
    simp only [withKids, setL_all (show vs.length = cs.length by omega)]
    exact k
/-- All parts of a register's struct. -/
theorem takeAg {r : Nat} {cs : List AV} (hr : look env r = .ag cs) (hw : whL cs = true) : TakeL (look env) [.ag (refL r [] 0 cs)] [.ag cs] (look ((r, .ag (holeL cs)) :: env)) := by
  have h := TakeL.whole (r := r) (.ag cs) (σ := look env) (σ' := setS (look env) r [] (hole (.ag cs))) (p := []) hw (by simp only [getN, hr]) (.nil _)
  rw [setS_look] at h
  simpa only [setN, hole, refT] using h
/-- All parts of a variable's struct. -/
theorem takeVr {r : Nat} {cs : List AV} (hr : look env r = .op cs) (hw : whL cs = true) : TakeL (look env) (refL r [] 0 cs) cs (look ((r, .op (holeL cs)) :: env)) := by
  have h := TakeL.wholeL (r := r) cs (σ := look env) (p := []) (done := []) (rest := cs) (x := .op cs) hw rfl (by simp only [getN, hr]) rfl (fun _ => rfl)
  rw [setS_look] at h
  simpa only [setN, withKids, List.nil_append, List.length_nil] using h
theorem refL_len (r : Nat) (p : List Nat) : ∀ (cs : List AV) (i : Nat), (refL r p i cs).length = cs.length
  | [], _ => rfl
  | c :: cs, i => by simp [refL, refL_len r p cs]
theorem ldVr {ty s : Nat} {cs : List AV} [hT : AgT P ty s] (ht : Nat.blt t HB = true) (hx : look env t = .op cs) (hl : Nat.beq cs.length s = true) : LD P (look env) ty (ov (look env) (.tmp t)) (.ag (refL t [] 0 cs)) := by
  have hl := Nat.eq_of_beq_eq_true hl
  refine .many (refL t [] 0 cs) s hT.ht hT.hs (by rw [refL_len, hl]) hT.h0 fun k hk => ?_
  have hk' : k < cs.length := by omega
  have hg := refL_get t [] cs 0 k
  rw [hg]
  simp only [ov, ht, cond_true, hx, refT, cell, nodeCells, getN, Option.bind_some, Nat.zero_add]
/-- A struct with own parts, out of a variable, is handed back. -/
theorem retCG {ty s n : Nat} {cs : List AV} {res : AV} {fin : List AV} {ex : Ex} [hT : AgT P ty s] (ht : Nat.blt t HB = true) (hx : look env t = .op cs) (hl : Nat.beq cs.length s = true) (hw : whL cs = true) (hres : .ag cs = res) (hf : fins n (look ((t, .op (holeL cs)) :: env)) = fin) (hn : fin.all noRf = true) (he : ex = .normal ∨ ex = .ret := by simp) :
    (ex = .normal ∨ ex = .ret) ∧ ∃ az rs σ2, ResL P (look env) [.cell t ty] az ∧ TakeL (look env) az rs σ2 ∧ resOf rs = res ∧ fins n σ2 = fin ∧ fin.all noRf = true :=
  ⟨he, _, [.ag cs], look ((t, .op (holeL cs)) :: env), .cell t ty (ldVr ht hx hl) .nil, .ag (takeVr hx hw) (.nil _), hres, hf, hn⟩
theorem retCGV {ty s n t2 : Nat} {cs : List AV} {res : AV} {fin : List AV} {ex : Ex} {v : Value} [hT : AgT P ty s] (ht : Nat.blt t HB = true) (hx : look env t = .op cs) (hl : Nat.beq cs.length s = true) (hw : whL cs = true) (hy : ov (look env) (.tmp t2) = .sc v) (hres : .tu [.ag cs, .sc v] = res) (hf : fins n (look ((t, .op (holeL cs)) :: env)) = fin) (hn : fin.all noRf = true) (he : ex = .normal ∨ ex = .ret := by simp) :
    (ex = .normal ∨ ex = .ret) ∧ ∃ az rs σ2, ResL P (look env) [.cell t ty, .tmp t2] az ∧ TakeL (look env) az rs σ2 ∧ resOf rs = res ∧ fins n σ2 = fin ∧ fin.all noRf = true :=
  ⟨he, _, [.ag cs, .sc v], look ((t, .op (holeL cs)) :: env), .cell t ty (ldVr ht hx hl) (.tmp t2 .nil), .ag (takeVr hx hw) (by rw [hy]; exact .plain rfl (.nil _)), hres, hf, hn⟩
theorem QE.mk {α : Type} {f : α → List AV} {x y : Operand} {tx e sz by_ n : Nat} {k0 k1 : IntKind} {z : Value} {zc : List AV} [hT : SlT P tx e sz] [hZ : ZrT P e by_ z zc] [hW : Wid f sz] (dv : α) (hx : ov (look env) x = .sc (.int k0 n)) (hy : ov (look env) y = .sc (.int k1 n)) (hd : zc = f dv) (hb : n * by_ ≤ 140737488355328) (hm : n ≤ maxLen) : Ev P X (.qe ⟨some d, .makeSlice tx x y, ty, pos, af, g⟩ (look env) (.ow e sz n (encL f (List.replicate n dv)))) := by
  have hz : z.cells.size = sz := by
    have := congrArg List.length (hZ.hc.trans hd)
    rw [hW.w] at this
    simpa using this
  have := QO.makeSlice (P := P) (σ := look env) tx e sz by_ x y k0 k1 n z hT.ht hT.hs hZ.hb hZ.hz hz hT.h0 hx hy hm hb hZ.h1
  rw [made_enc hz hT.h0 (hZ.hc.trans hd)] at this
  exact .qo this
/-- A whole variable is loaded: references to its own parts. -/
theorem QE.ldG {tx s : Nat} {cs : List AV} {L : List AV} [hT : AgT P tx s] (ht : Nat.blt t HB = true) (hx : look env t = .op cs) (hl : Nat.beq cs.length s = true) (hL : refL t [] 0 cs = L) : Ev P X (.qe ⟨some d, .load tx (.tmp t), ty, pos, af, g⟩ (look env) (.ag L)) := by
  subst hL
  exact .qo (.load tx (.tmp t) _ (ldVr ht hx hl))
/-- What a register owns is moved behind an own slice in a cell of a variable. -/
theorem WO.apPM {s : Operand} {tx e sz by_ n m r j : Nat} {z : Value} {cs cs' ds L zc : List AV} [hT : SlT P tx e sz] [hZ : ZrT P e by_ z zc] (hg : gg all (look env) g = some true) (hs : ov (look env) s = .vw r [j] 0 n) (hr : look env r = .op ds) (hj : ds[j]? = some (.ow e sz n cs)) (hl : cs.length = n * sz) (ht : Nat.blt t HB = true) (hx : look env t = .ow e sz m L) (hL : L.length = m * sz) (htr : Nat.beq r t = false) (hz : Nat.beq zc.length sz = true) (h63 : n + m ≤ maxLen) (hby : (n + m) * by_ ≤ 140737488355328) (hn : nrE d env = true) (hd : ds.set j .dead = cs') (hnr : nrL d cs' = true)
    (k : WO P X all l (look ((d, .ow e sz (n + m) (cs ++ L)) :: (t, .dead) :: (r, .op cs') :: env)) R) : WO P X all (⟨some d, .call { callee := .builtin .append, args := #[s, .tmp t], argTypes := #[tx, tx] }, ty, pos, af, g⟩ :: l) (look env) R := by
  have e1 : setS (look env) r [j] .dead = look ((r, .op cs') :: env) := by
    rw [← look_upd]; simp only [setS, hr, setN, kids, hj, withKids, hd]
  have hx2 : look ((r, .op cs') :: env) t = .ow e sz m L := by simp only [look, htr, cond_false]; exact hx
  have h2 : TakeL (look env) [.vw r [j] 0 n, ov (look env) (.tmp t)] [.ow e sz n cs, .ow e sz m L] (look ((t, .dead) :: (r, .op cs') :: env)) := by
    have ho : ov (look env) (.tmp t) = .vw t [] 0 m := by simp only [ov, ht, cond_true, hx, refT]
    rw [ho]
    have : TakeL (look env) [.vw r [j] 0 n, .vw t [] 0 m] [.ow e sz n (cs.take (n * sz)), .ow e sz m L] (look ((t, .dead) :: (r, .op cs') :: env)) := .vw (by simp [getN, hr, kids, hj]) (Nat.le_refl _) (by rw [e1]; exact tkV hx2 hL (.nil _))
    rwa [List.take_of_length_le (by omega)] at this
  refine WO.op (σ1 := put (look ((t, .dead) :: (r, .op cs') :: env)) d (.ow e sz (n + m) (cs ++ L))) (gg_goes hg) (.appendM (σ2 := look env) (z := z) rfl rfl hT.ht hT.hs hZ.hb hZ.hz (zr_size hZ hz) hT.h0 (by rw [hs]; exact h2) (.ow n cs) h63 hby) ?_
  rw [put_look (by simp only [nrE, nrA, hn, hnr, Bool.and_self]) rfl]
  exact k
end
section
variable {P : Program} {env : Env} {t t2 n : Nat} {ex : Ex} {res : AV} {fin : List AV}
/-- Two slices that are owned are handed back. -/
theorem retOO {e sz m r e2 sz2 m2 r2 : Nat} {cs cs2 : List AV} (hx : ov (look env) (.tmp t) = .vw r [] 0 m) (hr : look env r = .ow e sz m cs) (hl : cs.length = m * sz) (hy : ov (look env) (.tmp t2) = .vw r2 [] 0 m2) (hr2 : look env r2 = .ow e2 sz2 m2 cs2) (hl2 : cs2.length = m2 * sz2) (hrr : Nat.beq r r2 = false) (hres : .tu [.ow e sz m cs, .ow e2 sz2 m2 cs2] = res) (hf : fins n (look ((r2, .dead) :: (r, .dead) :: env)) = fin) (hn : fin.all noRf = true) (he : ex = .normal ∨ ex = .ret := by simp) :
    (ex = .normal ∨ ex = .ret) ∧ ∃ az rs σ2, ResL P (look env) [.tmp t, .tmp t2] az ∧ TakeL (look env) az rs σ2 ∧ resOf rs = res ∧ fins n σ2 = fin ∧ fin.all noRf = true := by
  refine ⟨he, _, [.ow e sz m cs, .ow e2 sz2 m2 cs2], look ((r2, .dead) :: (r, .dead) :: env), .tmp t (.tmp t2 .nil), ?_, hres, hf, hn⟩
  rw [hx, hy]
  have hr3 : look ((r, .dead) :: env) r2 = .ow e2 sz2 m2 cs2 := by simp only [look, hrr, cond_false]; exact hr2
  exact tkV hr hl (tkV hr3 hl2 (.nil _))
theorem retOOV {t3 e sz m r e2 sz2 m2 r2 : Nat} {cs cs2 : List AV} {v : Value} (hx : ov (look env) (.tmp t) = .vw r [] 0 m) (hr : look env r = .ow e sz m cs) (hl : cs.length = m * sz) (hy : ov (look env) (.tmp t2) = .vw r2 [] 0 m2) (hr2 : look env r2 = .ow e2 sz2 m2 cs2) (hl2 : cs2.length = m2 * sz2) (hrr : Nat.beq r r2 = false) (hz : ov (look env) (.tmp t3) = .sc v) (hres : .tu [.ow e sz m cs, .ow e2 sz2 m2 cs2, .sc v] = res) (hf : fins n (look ((r2, .dead) :: (r, .dead) :: env)) = fin) (hn : fin.all noRf = true) (he : ex = .normal ∨ ex = .ret := by simp) :
    (ex = .normal ∨ ex = .ret) ∧ ∃ az rs σ2, ResL P (look env) [.tmp t, .tmp t2, .tmp t3] az ∧ TakeL (look env) az rs σ2 ∧ resOf rs = res ∧ fins n σ2 = fin ∧ fin.all noRf = true := by
  refine ⟨he, _, [.ow e sz m cs, .ow e2 sz2 m2 cs2, .sc v], look ((r2, .dead) :: (r, .dead) :: env), .tmp t (.tmp t2 (.tmp t3 .nil)), ?_, hres, hf, hn⟩
  rw [hx, hy, hz]
  have hr3 : look ((r, .dead) :: env) r2 = .ow e2 sz2 m2 cs2 := by simp only [look, hrr, cond_false]; exact hr2
  exact tkV hr hl (tkV hr3 hl2 (.plain rfl (.nil _)))
theorem retPPV {t3 : Nat} {a b : AV} {v : Value} (hx : ov (look env) (.tmp t) = a) (hy : ov (look env) (.tmp t2) = b) (ha : isPl a = true) (hb : isPl b = true) (hz : ov (look env) (.tmp t3) = .sc v) (hres : .tu [a, b, .sc v] = res) (hf : fins n (look env) = fin) (hn : fin.all noRf = true) (he : ex = .normal ∨ ex = .ret := by simp) :
    (ex = .normal ∨ ex = .ret) ∧ ∃ az rs σ2, ResL P (look env) [.tmp t, .tmp t2, .tmp t3] az ∧ TakeL (look env) az rs σ2 ∧ resOf rs = res ∧ fins n σ2 = fin ∧ fin.all noRf = true := by
  refine ⟨he, _, [a, b, .sc v], look env, .tmp t (.tmp t2 (.tmp t3 .nil)), ?_, hres, hf, hn⟩
  rw [hx, hy, hz]; exact .plain ha (.plain hb (.plain rfl (.nil _)))
end
section
variable {P : Program} {X : FuncId → List AV → AV → List AV → Prop} {all : Array Oper} {R : (Nat → AV) → Prop} {env : Env} {g : Option (Nat × Bool)} {d t i : Nat} {l : List Oper} {ty : TypeId} {pos : String} {af : Array Edge}
/-- A slice that is owned at a place is taken from there. -/
theorem WO.takeP {op : Op} {x : Operand} {r n e sz : Nat} {p : List Nat} {cs : List AV} {y : AV} (hg : gg all (look env) g = some true) (hop : MV op x) (hx : ov (look env) x = .vw r p 0 n) (hr : getN p (look env r) = some (.ow e sz n cs)) (hl : cs.length = n * sz) (hy : setN p (look env r) .dead = y) (hn : nrE d env = true) (hny : nrA d y = true) (k : WO P X all l (look ((d, .ow e sz n cs) :: (r, y) :: env)) R) : WO P X all (⟨some d, op, ty, pos, af, g⟩ :: l) (look env) R := by
  subst hy
  have hT : TakeL (look env) [ov (look env) x] [.ow e sz n cs] (look ((r, setN p (look env r) .dead) :: env)) := by
    rw [hx]
    have : TakeL (look env) [.vw r p 0 n] [.ow e sz n (cs.take (n * sz))] (setS (look env) r p .dead) := .vw hr (Nat.le_refl _) (.nil _)
    rw [List.take_of_length_le (by omega), setS_look] at this
    exact this
  refine WO.op (σ1 := put (look ((r, setN p (look env r) .dead) :: env)) d (.ow e sz n cs)) (gg_goes hg) (.take (x := x) (by cases hop <;> simp) rfl hT) ?_
  rw [put_look (by simp only [nrE, hny, hn, Bool.and_self]) rfl]
  exact k
/-- A tuple with own parts is moved: references to them are. -/
theorem WO.mvR {op : Op} {x : Operand} {av : AV} (hg : gg all (look env) g = some true) (hop : MV op x) (hx : ov (look env) x = av) (hn : nrE d env = true) (ha : nrA d av = true) (k : WO P X all l (look ((d, av) :: env)) R) : WO P X all (⟨some d, op, ty, pos, af, g⟩ :: l) (look env) R := WO.mv hg hop hx hn ha k
theorem WO.extR {x : Operand} {cs : List AV} {c : AV} (hg : gg all (look env) g = some true) (hx : ov (look env) x = .tu cs) (hc : cs[i]? = some c) (hn : nrE d env = true) (ha : nrA d c = true) (k : WO P X all l (look ((d, c) :: env)) R) : WO P X all (⟨some d, .extract x i, ty, pos, af, g⟩ :: l) (look env) R := WO.q hg (.qo (.extract x i cs c hx hc)) hn ha k
end
section
variable {P : Program} {X : FuncId → List AV → AV → List AV → Prop} {env : Env} {Q : Ex → (Nat → AV) → Prop}
/-- What a register owns, at a place, is only read from now on. -/
theorem WC.hard {c : Code} {r : Nat} {p : List Nat} {x y : AV} (hn : getN p (look env r) = some x) (hx : isOw x = true) (hy : setN p (look env r) (Eng.hard x) = y) (k : WC P X c (look ((r, y) :: env)) Q) : WC P X c (look env) Q := by
  subst hy
  obtain ⟨ex, σ2, h1, h2⟩ := k
  refine ⟨ex, σ2, .hard (r := r) (p := p) hn hx ?_, h2⟩
  rw [setS_look]; exact h1
end
/-- More is told of a pointer's first argument than is asked. -/
theorem Ev.cut1 {P : Program} {X : FuncId → List AV → AV → List AV → Prop} {f : FuncId} {cs rest as fin : List AV} {res : AV} (h : Ev P X (.fn f (.ip cs :: as) res fin)) : Ev P X (.fn f (.ip (cs ++ rest) :: as) res fin) := by
  refine .fnArg h (.cut cs rest ?_)
  clear h
  induction as with
  | nil => exact .nil
  | cons a as ih => exact .same a ih
theorem Ev.cut2 {P : Program} {X : FuncId → List AV → AV → List AV → Prop} {f : FuncId} {a : AV} {cs rest as fin : List AV} {res : AV} (h : Ev P X (.fn f (a :: .ip cs :: as) res fin)) : Ev P X (.fn f (a :: .ip (cs ++ rest) :: as) res fin) := by
  refine .fnArg h (.same a (.cut cs rest ?_))
  clear h
  induction as with
  | nil => exact .nil
  | cons a as ih => exact .same a ih
end Go.Eng
