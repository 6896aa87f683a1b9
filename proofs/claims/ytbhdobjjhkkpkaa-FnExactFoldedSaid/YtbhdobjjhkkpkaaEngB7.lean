/- The engine: a call that is given a variable in two parts, each by its address; loads of a part of a variable. -/
import Derived.Test.YtbhdobjjhkkpkaaEngB6
namespace Go.Eng
open Go Go.RowKit
set_option linter.unusedVariables false
set_option linter.unusedSimpArgs false
section
variable {P : Program} {X : FuncId → List AV → AV → List AV → Prop} {all : Array Oper} {l : List Oper} {R : (Nat → AV) → Prop}
variable {g : Option (Nat × Bool)} {env : Env} {d t : Nat} {ty : TypeId} {pos : String} {af : Array Edge}
/-- A call that is given a variable in two parts. -/
theorem WO.call2 {fn : FuncId} {x0 x1 x2 : Operand} {ts : Array TypeId} {r i : Nat} {cs d1 d2 : List AV} {a a' res : AV} (hg : gg all (look env) g = some true) (h0 : ov (look env) x0 = a) (hp : isPlA a = true) (h1 : ov (look env) x1 = .ad r [] 0) (h2 : ov (look env) x2 = .ad r [] i) (hr : look env r = .op cs)
    (hf : Ev P X (.fn fn [a, .op (cs.take i), .op (cs.drop i)] res [a', .op d1, .op d2])) (hi : d1.length = i) (hne : nbE r 0 env = true) (hd : nrE d env = true) (hdr : nrA d res = true) (k : WO P X all l (look ((d, res) :: (r, .op (d1 ++ d2)) :: env)) R) : WO P X all (⟨some d, .call { callee := .value (.func fn), args := #[x0, x1, x2], argTypes := ts }, ty, pos, af, g⟩ :: l) (look env) R := by
  have e1 : setS (look env) r [] .dead = look ((r, .dead) :: env) := by rw [← look_upd]; rfl
  have hm : modS (look ((r, .dead) :: env)) r [] (isU r []) (.op (d1 ++ d2)) = look ((r, .op (d1 ++ d2)) :: (r, .dead) :: env) :=
    modS_lookU (r := r) (p := []) (e := (r, .dead) :: env) (x := .op (d1 ++ d2)) (by simp only [List.length_nil, nbE, nbA, hne, Bool.and_self]) rfl
  have hov : (#[x0, x1, x2] : Array Operand).toList.map (ov (look env)) = [a, .ad r [] 0, .ad r [] i] := by simp only [List.map_cons, List.map_nil, h0, h1, h2]
  refine WO.op (σ1 := putD (look ((r, .op (d1 ++ d2)) :: (r, .dead) :: env)) (some d) res) (gg_goes hg) (.call (ms := [false, true, true]) (σ1 := look ((r, .dead) :: env)) rfl ?_ hf (.inr ?_) ?_ ?_) ?_
  · rw [hov]
    refine .ro (FrzL.plains (by simp only [List.all_cons, hp, List.all_nil, Bool.and_self])) ?_
    refine PassL.own2 (r := r) (p := []) (cs := cs) (i := i) (by simp [getN, hr]) ?_
    rw [e1]; exact .nil _
  · rw [hov]; simp only [roPl, hp, Bool.and_self]
  · rw [hov]; simp [owRefs, refs, stab, isU]
  · rw [hov]; refine .skip (.ad2 (by simp [look, getN]) hi ?_); rw [hm]; exact .nil _
  · simp only [putD]
    rw [put_look (by simp only [nrE, nrA, hd, Bool.and_self]) hdr, look_dup2]
    exact k
/-- A struct that is a part of a variable is looked at. -/
theorem QE.ldGI {x : Operand} {tx s r i : Nat} {cs : List AV} {L : List AV} [hT : AgT P tx s] (hx : ov (look env) x = .ad r [] i) (hr : look env r = .op cs) (hl : Nat.ble (i + s) cs.length = true) (hL : ((refL r [] 0 cs).drop i).take s = L) : Ev P X (.qe ⟨some d, .load tx x, ty, pos, af, g⟩ (look env) (.ag L)) := by
  subst hL
  have hl := Nat.le_of_ble_eq_true hl
  refine .qo (.load tx x _ (.many _ s hT.ht hT.hs ?_ hT.h0 fun k hk => ?_))
  · rw [List.length_take, List.length_drop, refL_len]; omega
  · rw [List.getElem?_take_of_lt hk, List.getElem?_drop, refL_get, hx]
    simp only [cell, nodeCells, getN, hr, Option.bind_some, Nat.zero_add, List.nil_append]
/-- A part of a variable is only read by a call. -/
theorem frzI {r i : Nat} {cs L : List AV} (hr : look env r = .op cs) (hL : hardL (cs.drop i) = L) : Frz (look env) (.ad r [] i) (.ip L) := by
  subst hL
  exact .ad r i [] cs (by simp only [nodeCells, getN, hr])
theorem Ev.cut1' {f : FuncId} {cs cs2 as fin : List AV} {res : AV} (rest : List AV) (h : Ev P X (.fn f (.ip cs :: as) res fin)) (he : cs2 = cs ++ rest) : Ev P X (.fn f (.ip cs2 :: as) res fin) := by
  subst he; exact Ev.cut1 h
theorem Ev.cut2' {f : FuncId} {a : AV} {cs cs2 as fin : List AV} {res : AV} (rest : List AV) (h : Ev P X (.fn f (a :: .ip cs :: as) res fin)) (he : cs2 = cs ++ rest) : Ev P X (.fn f (a :: .ip cs2 :: as) res fin) := by
  subst he; exact Ev.cut2 h
/-- A slice that stands in a cell of a node is looked at. -/
theorem QE.ldOwP {x : Operand} {tx r i e sz n : Nat} {p : List Nat} {cs ds : List AV} [hT : OnT P tx] (hx : ov (look env) x = .ad r p i) (hr : nodeCells (look env) r p = some ds) (hc : ds[i]? = some (.ow e sz n cs)) : Ev P X (.qe ⟨some d, .load tx x, ty, pos, af, g⟩ (look env) (.vw r (p ++ [i]) 0 n)) :=
  .qo (.load tx x (.vw r (p ++ [i]) 0 n) (.one _ hT.ht (by rw [hx]; simp only [cell, hr, Option.bind_some, Nat.add_zero, hc, Option.map_some]; rfl)))
/-- The address of a one-cell element of a slice, wherever it stands. -/
theorem QE.ixP {x ix : Operand} {tx e e' n m r : Nat} {k0 : IntKind} {p : List Nat} {cs : List AV} [hT : SlT P tx e 1] (j : Nat) (hx : ov (look env) x = .vw r p 0 n) (hr : getN p (look env r) = some (.ow e' 1 m cs)) (hl : n ≤ cs.length) (hi : ov (look env) ix = .sc (.int k0 (j : Int))) (h1 : j < n) : Ev P X (.qe ⟨some d, .indexAddr tx x ix, ty, pos, af, g⟩ (look env) (.ad r p j)) := by
  have h := QE.ixO (P := P) (X := X) (g := g) (d := d) (ty := ty) (pos := pos) (af := af) (tx := tx) (e := e) (sz := 1) hx hr (by omega) hi (by omega) (by omega)
  rwa [Int.toNat_natCast, Nat.mul_one, Nat.zero_add] at h
/-- A number is stored into a cell of a slice, wherever it stands. -/
theorem WO.stP {x y : Operand} {tx r i e sz n : Nat} {p : List Nat} {cs : List AV} {v : Value} {z : AV} [hT : OnT P tx] (hg : gg all (look env) g = some true) (hx : ov (look env) x = .ad r p i) (hy : ov (look env) y = .sc v) (hr : getN p (look env r) = some (.ow e sz n cs)) (hi : i < cs.length) (hne : nbE r p.length env = true) (hz : setN p (look env r) (.ow e sz n (cs.set i (.sc v))) = z) (hnz : nbA r p.length z = true) (k : WO P X all l (look ((r, z) :: env)) R) : WO P X all (⟨none, .store tx x y, ty, pos, af, g⟩ :: l) (look env) R := by
  refine WO.st1 (e := e) (sz := sz) (n := n) (c := .sc v) (cs := cs) (p := p) hg hx hy rfl hr (.inl ⟨_, _, _, rfl⟩) hi (modS_look hne (by rw [show withKids (AV.ow e sz n cs) (cs.set i (.sc v)) = .ow e sz n (cs.set i (.sc v)) from rfl, hz]; exact hnz)) ?_
  rw [show withKids (AV.ow e sz n cs) (cs.set i (.sc v)) = .ow e sz n (cs.set i (.sc v)) from rfl, hz]
  exact k
end
section
variable {P : Program} {env : Env} {t t2 n : Nat} {ex : Ex} {res : AV} {fin : List AV}
/-- A plain value and a struct of plain parts out of a variable are handed back. -/
theorem retVC {ty s : Nat} {cs : List AV} {u : Value} [hT : AgT P ty s] (hy : ov (look env) (.tmp t) = .sc u) (ht : Nat.blt t2 HB = true) (hx : look env t2 = .op cs) (hl : Nat.beq cs.length s = true) (hp : cs.all isPl = true) (hres : .tu [.sc u, .ag cs] = res) (hf : fins n (look env) = fin) (hn : fin.all noRf = true) (he : ex = .normal ∨ ex = .ret := by simp) :
    (ex = .normal ∨ ex = .ret) ∧ ∃ az rs σ2, ResL P (look env) [.tmp t, .cell t2 ty] az ∧ TakeL (look env) az rs σ2 ∧ resOf rs = res ∧ fins n σ2 = fin ∧ fin.all noRf = true := by
  have h := ldVr (env := env) (t := t2) (ty := ty) (P := P) ht hx hl
  rw [refL_pl hp] at h
  refine ⟨he, _, [.sc u, .ag cs], look env, .tmp t (.cell t2 ty h .nil), ?_, hres, hf, hn⟩
  rw [hy]
  exact .plain rfl (.ag (TakeL.pls hp) (.nil _))
theorem retCV {ty s : Nat} {cs : List AV} {u : Value} [hT : AgT P ty s] (ht : Nat.blt t2 HB = true) (hx : look env t2 = .op cs) (hl : Nat.beq cs.length s = true) (hp : cs.all isPl = true) (hy : ov (look env) (.tmp t) = .sc u) (hres : .tu [.ag cs, .sc u] = res) (hf : fins n (look env) = fin) (hn : fin.all noRf = true) (he : ex = .normal ∨ ex = .ret := by simp) :
    (ex = .normal ∨ ex = .ret) ∧ ∃ az rs σ2, ResL P (look env) [.cell t2 ty, .tmp t] az ∧ TakeL (look env) az rs σ2 ∧ resOf rs = res ∧ fins n σ2 = fin ∧ fin.all noRf = true := by
  have h := ldVr (env := env) (t := t2) (ty := ty) (P := P) ht hx hl
  rw [refL_pl hp] at h
  refine ⟨he, _, [.ag cs, .sc u], look env, .cell t2 ty h (.tmp t .nil), ?_, hres, hf, hn⟩
  refine .ag (TakeL.pls hp) ?_
  rw [hy]
  exact .plain rfl (.nil _)
theorem retCC {ty ty2 s s2 : Nat} {cs ds : List AV} [hT : AgT P ty s] [hT2 : AgT P ty2 s2] (ht : Nat.blt t HB = true) (hx : look env t = .op cs) (hl : Nat.beq cs.length s = true) (hp : cs.all isPl = true) (ht2 : Nat.blt t2 HB = true) (hx2 : look env t2 = .op ds) (hl2 : Nat.beq ds.length s2 = true) (hp2 : ds.all isPl = true) (hres : .tu [.ag cs, .ag ds] = res) (hf : fins n (look env) = fin) (hn : fin.all noRf = true) (he : ex = .normal ∨ ex = .ret := by simp) :
    (ex = .normal ∨ ex = .ret) ∧ ∃ az rs σ2, ResL P (look env) [.cell t ty, .cell t2 ty2] az ∧ TakeL (look env) az rs σ2 ∧ resOf rs = res ∧ fins n σ2 = fin ∧ fin.all noRf = true := by
  have h := ldVr (env := env) (t := t) (ty := ty) (P := P) ht hx hl
  rw [refL_pl hp] at h
  have h2 := ldVr (env := env) (t := t2) (ty := ty2) (P := P) ht2 hx2 hl2
  rw [refL_pl hp2] at h2
  exact ⟨he, _, [.ag cs, .ag ds], look env, .cell t ty h (.cell t2 ty2 h2 .nil), .ag (TakeL.pls hp) (.ag (TakeL.pls hp2) (.nil _)), hres, hf, hn⟩
end
end Go.Eng
