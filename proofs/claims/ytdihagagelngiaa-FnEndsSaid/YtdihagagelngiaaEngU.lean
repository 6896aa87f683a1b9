/- The engine, part U: regions whose order is drawn, in the form in which they are used. -/
import Derived.Test.YtdihagagelngiaaEngT
namespace Go.Eng
open Go Go.RowKit
set_option linter.unusedVariables false
set_option linter.unusedSimpArgs false

/-- The registers that are not hidden. -/
def deE (H : List Nat) : Env → Env
  | [] => []
  | (r, a) :: e => bif H.contains r then deE H e else (r, a) :: deE H e
theorem deE_mask {H : List Nat} : ∀ (e : Env), maskR H (look e) = look (deE H e)
  | [] => by funext t; simp only [maskR, look, deE]; split <;> rfl
  | (r, a) :: e => by
    funext t
    have ih := congrFun (deE_mask (H := H) e) t
    simp only [maskR, look, deE] at ih ⊢
    cases hc : H.contains r
    · simp only [cond_false, look]
      cases hb : Nat.beq r t
      · simp only [cond_false]; exact ih
      · simp only [cond_true]
        rw [← Nat.eq_of_beq_eq_true hb, hc]; simp
    · simp only [cond_true]
      cases hb : Nat.beq r t
      · simp only [cond_false]; exact ih
      · simp only [cond_true]
        rw [Nat.eq_of_beq_eq_true hb] at hc
        rw [hc] at ih ⊢
        simpa using ih
theorem deE_drop {H : List Nat} (e : Env) : Drop (look e) (look (deE H e)) := by
  rw [← deE_mask]
  intro t
  simp only [maskR]
  split
  · exact .inl rfl
  · exact .inr rfl
/-- What is told of a drawn region: who stands ahead, what is quiet, what the others turn, the registers that it fills, the order, and of each operation what is hidden from it. -/
structure RI where
  anc : List (List Nat)
  quiet : List Nat
  gen : List (Nat × List Nat)
  ds : List Nat
  ord : List Nat
  tab : List (List Nat × List Nat × Bool)
def riOk (all : Array Oper) (ri : RI) : Bool :=
  drawOk all ri.anc ri.quiet ri.gen && (decide (ri.ord = List.range all.size) && decide (ri.tab = (List.range all.size).map fun i => (hides all ri.anc i, hidesG all ri.anc ri.gen i, gmix all ri.anc ri.gen i)))
section
variable (P : Program) (X : FuncId → List AV → AV → List AV → Prop)
structure WD (all : Array Oper) (ri : RI) (l : List Nat) (σ : Nat → AV) (Q : (Nat → AV) → Prop) : Prop where
  out : riOk all ri = true → ∃ σ', Ev P X (.drawn all ri.anc ri.quiet ri.gen l σ σ') ∧ Q σ'
/-- One step beside the others: what it puts. -/
structure WK (E : Env) (pre : Env) (σ : Nat → AV) : Prop where
  out : σ = look (pre ++ E)
end
/-- Some registers are put. -/
inductive Pre : Env → Env → Env → Prop
  | nil (E : Env) : Pre [] E E
  | cons (x : Nat × AV) {p E e : Env} (h : Pre p E e) : Pre (x :: p) E (x :: e)
theorem Pre.eq {p E e : Env} (h : Pre p E e) : e = p ++ E := by
  induction h with
  | nil E => rfl
  | cons x h ih => rw [ih]; rfl
theorem WK.mk' {E pre e : Env} (h : Pre pre E e) : WK E pre (look e) := ⟨by rw [h.eq]⟩
mutual
def okA (bad : Nat → List Nat → Bool) : AV → Bool
  | .vw r p _ _ => !(bad r p)
  | .ad r p _ => !(bad r p)
  | .ag cs => okL bad cs
  | .tu cs => okL bad cs
  | _ => true
def okL (bad : Nat → List Nat → Bool) : List AV → Bool
  | [] => true
  | c :: cs => okA bad c && okL bad cs
end
mutual
theorem okA_mask {bad : Nat → List Nat → Bool} : ∀ (a : AV), okA bad a = true → mask bad a = a
  | .sc _, _ => rfl
  | .nl, _ => rfl
  | .im .., _ => rfl
  | .ow .., _ => rfl
  | .ip _, _ => rfl
  | .op _, _ => rfl
  | .dead, _ => rfl
  | .vw r p off n, e => by simp only [okA, Bool.not_eq_true'] at e; simp only [mask, e, cond_false]
  | .ad r p i, e => by simp only [okA, Bool.not_eq_true'] at e; simp only [mask, e, cond_false]
  | .ag cs, e => by simp only [okA] at e; simp only [mask, okL_mask cs e]
  | .tu cs, e => by simp only [okA] at e; simp only [mask, okL_mask cs e]
theorem okL_mask {bad : Nat → List Nat → Bool} : ∀ (cs : List AV), okL bad cs = true → maskL bad cs = cs
  | [], _ => rfl
  | c :: cs, e => by
    simp only [okL, Bool.and_eq_true] at e
    simp only [maskL, okA_mask c e.1, okL_mask cs e.2]
end
/-- What registers may refer to beside a step that turns something. -/
def chkE (D H : List Nat) : Env → Bool
  | [] => true
  | (r, a) :: e => (bif H.contains r then okA (badC D H) a else okA (badE H) a) && chkE D H e
theorem chkE_ok {D H : List Nat} : ∀ (e : Env), chkE D H e = true → ∀ t, (H.contains t = true → mask (badC D H) (look e t) = look e t) ∧ (H.contains t = false → mask (badE H) (look e t) = look e t)
  | [], _, t => ⟨fun _ => rfl, fun _ => rfl⟩
  | (r, a) :: e, h, t => by
    simp only [chkE, Bool.and_eq_true] at h
    simp only [look]
    cases hb : Nat.beq r t
    · simp only [cond_false]; exact chkE_ok e h.2 t
    · simp only [cond_true]
      rw [Nat.eq_of_beq_eq_true hb] at h
      refine ⟨fun ht => ?_, fun ht => ?_⟩
      · have := h.1; rw [ht] at this; exact okA_mask a this
      · have := h.1; rw [ht] at this; exact okA_mask a this
def deadD (env : Env) : List Nat → Prop
  | [] => True
  | d :: ds => look env d = .dead ∧ deadD env ds
theorem deadD_mem {env : Env} : ∀ {ds : List Nat}, deadD env ds → ∀ d ∈ ds, look env d = .dead
  | d :: ds, h, x, hx => by
    rcases List.mem_cons.1 hx with rfl | hx
    · exact h.1
    · exact deadD_mem h.2 x hx
theorem look_app_out {p E : Env} {t : Nat} (h : p.all (fun x => !(Nat.beq x.1 t)) = true) : look (p ++ E) t = look E t := by
  induction p with
  | nil => rfl
  | cons x p ih =>
    simp only [List.all_cons, Bool.and_eq_true, Bool.not_eq_true'] at h
    simp only [List.cons_append, look, h.1, cond_false]
    exact ih h.2
theorem look_app_in {E E' : Env} {t : Nat} : ∀ {p : Env}, p.any (fun x => Nat.beq x.1 t) = true → look (p ++ E) t = look (p ++ E') t
  | [], h => by simp at h
  | x :: p, h => by
    simp only [List.any_cons, Bool.or_eq_true] at h
    simp only [List.cons_append, look]
    cases hb : Nat.beq x.1 t
    · simp only [cond_false]
      exact look_app_in (h.resolve_left (by rw [hb]; simp))
    · simp only [cond_true]
section
variable {P : Program} {X : FuncId → List AV → AV → List AV → Prop} {all : Array Oper} {ri : RI} {l : List Nat} {R : (Nat → AV) → Prop} {Q : Ex → (Nat → AV) → Prop}
variable {g : Option (Nat × Bool)} {env : Env} {d t i : Nat} {ty : TypeId} {pos : String} {af : Array Edge} {α : Type} {f : α → List AV} {op : Op} {av : AV}
theorem riOk_tab {i : Nat} {HD H : List Nat} {gm : Bool} (h : riOk all ri = true) (ht : ri.tab[i]? = some (HD, H, gm)) : hides all ri.anc i = HD ∧ hidesG all ri.anc ri.gen i = H ∧ gmix all ri.anc ri.gen i = gm := by
  unfold riOk at h
  simp only [Bool.and_eq_true, decide_eq_true_eq] at h
  obtain ⟨-, -, h⟩ := h
  rw [h, List.getElem?_map, Option.map_eq_some_iff] at ht
  obtain ⟨j, hj, he⟩ := ht
  have : j = i := by
    have := (List.getElem?_eq_some_iff.1 hj)
    obtain ⟨hlt, he⟩ := this
    simpa using he.symm
  subst this
  simp only [Prod.mk.injEq] at he
  exact he
/-- A region that is drawn: what it writes is dropped ahead. -/
theorem WC.regionDd {id : Nat} (ri : RI) (ho : riOk all ri = true) (k : WD P X all ri ri.ord (look (deE ri.ds env)) (Q .normal)) : WC P X (.region id all true) (look env) Q := by
  obtain ⟨σ', h1, h2⟩ := k.out ho
  have ho' := ho
  unfold riOk at ho'
  simp only [Bool.and_eq_true, decide_eq_true_eq] at ho'
  obtain ⟨h3, h4, -⟩ := ho'
  rw [h4] at h1
  exact WC.drop (deE_drop (H := ri.ds) env) ⟨.normal, σ', .regionD h3 h1, h2⟩
/-- Nothing is there yet of what it writes. -/
def freshE (ds : List Nat) : Env → Bool
  | [] => true
  | (r, _) :: e => !(ds.contains r) && freshE ds e
theorem freshE_ok {ds : List Nat} : ∀ (e : Env), freshE ds e = true → deE ds e = e
  | [], _ => rfl
  | (r, a) :: e, h => by
    simp only [freshE, Bool.and_eq_true, Bool.not_eq_true'] at h
    simp only [deE, h.1, cond_false, freshE_ok e h.2]
theorem WC.regionD {id : Nat} (ri : RI) (ho : riOk all ri = true) (hf : freshE ri.ds env = true) (k : WD P X all ri ri.ord (look env) (Q .normal)) : WC P X (.region id all true) (look env) Q :=
  WC.regionDd ri ho (by rw [freshE_ok env hf]; exact k)
/-- What comes behind a quiet step. -/
structure WDn (P : Program) (X : FuncId → List AV → AV → List AV → Prop) (all : Array Oper) (ri : RI) (l : List Nat) (R : (Nat → AV) → Prop) (d : Nat) (HD H : List Nat) (gm : Bool) (env : Env) (av : AV) : Prop where
  h1 : look env d = .dead
  h2 : nrE d env = true
  h3 : okA (badD d HD H gm) av = true
  k : WD P X all ri l (look ((d, av) :: env)) R
theorem WD.nil (h : R (look env)) : WD P X all ri [] (look env) R := ⟨fun _ => ⟨_, .drNil _ _ _ _ _, h⟩⟩
theorem WD.q {HD H : List Nat} {gm : Bool} (hi : all[i]? = some ⟨some d, op, ty, pos, af, g⟩) (hq : ri.quiet.contains i = true) (hq2 : gTn ri.gen i = none) (ht : ri.tab[i]? = some (HD, H, gm)) (hg : gg all (look (deE H env)) g = some true) (h : Ev P X (.qe ⟨some d, op, ty, pos, af, g⟩ (look (deE H env)) av)) (h1 : look env d = .dead) (h2 : nrE d env = true) (h3 : okA (badD d HD H gm) av = true)
    (k : WD P X all ri l (look ((d, av) :: env)) R) : WD P X all ri (i :: l) (look env) R := by
  refine ⟨fun ho => ?_⟩
  obtain ⟨σ', k1, k2⟩ := k.out ho
  obtain ⟨e1, e2, e3⟩ := riOk_tab ho ht
  refine ⟨σ', .drQuiet hi hq hq2 rfl (gg_goes (by rw [e2, deE_mask]; exact hg)) (by rw [e2, deE_mask]; exact h) h1 (nrE_mask env h2) (by rw [e1, e2, e3]; exact okA_mask av h3) ?_, k2⟩
  rw [look_upd]; exact k1
theorem WD.q2 {HD H : List Nat} {gm : Bool} (hi : all[i]? = some ⟨some d, op, ty, pos, af, g⟩) (hq : ri.quiet.contains i = true) (hq2 : gTn ri.gen i = none) (ht : ri.tab[i]? = some (HD, H, gm)) (hg : gg all (look (deE H env)) g = some true) (h : Ev P X (.qe ⟨some d, op, ty, pos, af, g⟩ (look (deE H env)) av))
    (k : WDn P X all ri l R d HD H gm env av) : WD P X all ri (i :: l) (look env) R := WD.q hi hq hq2 ht hg h k.h1 k.h2 k.h3 k.k
theorem WD.skip {HD H : List Nat} {gm : Bool} (hi : all[i]? = some ⟨some d, op, ty, pos, af, g⟩) (hq : ri.quiet.contains i = true) (hq2 : gTn ri.gen i = none) (ht : ri.tab[i]? = some (HD, H, gm)) (hg : gg all (look (deE H env)) g = some false) (h1 : look env d = .dead) (h2 : nrE d env = true)
    (k : WD P X all ri l (look ((d, .tu []) :: env)) R) : WD P X all ri (i :: l) (look env) R := by
  refine ⟨fun ho => ?_⟩
  obtain ⟨σ', k1, k2⟩ := k.out ho
  obtain ⟨e1, e2, e3⟩ := riOk_tab ho ht
  refine ⟨σ', .drSkip hi hq hq2 rfl (gg_goes (by rw [e2, deE_mask]; exact hg)) h1 (nrE_mask env h2) ?_, k2⟩
  rw [look_upd]; exact k1
/-- One that is ordered against all others. -/
structure WDK (P : Program) (X : FuncId → List AV → AV → List AV → Prop) (all : Array Oper) (ri : RI) (l : List Nat) (Q : (Nat → AV) → Prop) (σ : Nat → AV) : Prop where
  out : WD P X all ri l σ Q
theorem WD.mut {o : Oper} (hi : all[i]? = some o) (hq : ri.quiet.contains i = false) (hq2 : gTn ri.gen i = none) (h : WO P X all [o] (look env) (WDK P X all ri l R)) : WD P X all ri (i :: l) (look env) R := by
  refine ⟨fun ho => ?_⟩
  obtain ⟨σ1, h1, h2⟩ := h
  obtain ⟨σ', k1, k2⟩ := h2.out.out ho
  exact ⟨σ', .drMut hi hq hq2 h1 k1, k2⟩
/-- One that turns something, beside others. -/
theorem WD.gen {o : Oper} {HD H D T : List Nat} {gm : Bool} (pre : Env) {env2 : Env} (hi : all[i]? = some o) (hq : ri.quiet.contains i = false) (hT : gTn ri.gen i = some T) (ht : ri.tab[i]? = some (HD, H, gm)) (hD : o.dst.toList = D) (h : WO P X all [o] (look (deE H env)) (WK (deE H env) pre))
    (h1 : pre.all (fun x => (D ++ T).contains x.1) = true) (h2 : (D ++ T).all (fun t => pre.any (fun x => Nat.beq x.1 t)) = true)
    (h3 : D.all (fun d => nrE d env && okA (badD d HD H gm) (look pre d)) = true) (h3' : deadD env D) (h4 : T.all (fun t => noRf (look env t) && noRf (look pre t)) = true) (h5 : chkE D H env = true) (he : Pre pre env env2)
    (k : WD P X all ri l (look env2) R) : WD P X all ri (i :: l) (look env) R := by
  refine ⟨fun ho => ?_⟩
  obtain ⟨σ', k1, k2⟩ := k.out ho
  obtain ⟨e1, e2, e3⟩ := riOk_tab ho ht
  obtain ⟨τ, t1, t2⟩ := h
  have t2 := t2.out
  subst t2
  subst hD
  have hin : ∀ t, (o.dst.toList ++ T).contains t = true → look (pre ++ deE H env) t = look pre t := fun t ht => by
    have hany := List.all_eq_true.1 h2 t (List.contains_iff_mem.1 ht)
    have := look_app_in (E := deE H env) (E' := []) hany
    rwa [List.append_nil] at this
  refine ⟨σ', .drGen hi hq hT (by rw [e2, deE_mask]; exact t1) (fun t ht => ?_) (fun d hd => ?_) (fun t ht => ?_) ?_ ?_, k2⟩
  · rw [e2, deE_mask]
    refine look_app_out (List.all_eq_true.2 fun x hx => ?_)
    have hx := List.all_eq_true.1 h1 x hx
    cases hb : Nat.beq x.1 t
    · rfl
    · rw [Nat.eq_of_beq_eq_true hb, ht] at hx; cases hx
  · have hm : d ∈ o.dst.toList := by rw [hd]; simp
    have := List.all_eq_true.1 h3 d hm
    rw [Bool.and_eq_true] at this
    rw [hin d (by rw [List.contains_iff_mem]; exact List.mem_append_left _ hm), e1, e2, e3]
    exact ⟨deadD_mem h3' d hm, nrE_mask env this.1, okA_mask _ this.2⟩
  · have := List.all_eq_true.1 h4 t ht
    rw [Bool.and_eq_true] at this
    rw [hin t (by rw [List.contains_iff_mem]; exact List.mem_append_right _ ht)]
    exact this
  · rw [e2]; exact chkE_ok env h5
  · have : over (o.dst.toList ++ T) (look (pre ++ deE H env)) (look env) = look env2 := by
      rw [he.eq]
      funext t
      cases ht : (o.dst.toList ++ T).contains t
      · rw [over_out ht]
        refine (look_app_out (List.all_eq_true.2 fun x hx => ?_)).symm
        have hx := List.all_eq_true.1 h1 x hx
        cases hb : Nat.beq x.1 t
        · rfl
        · rw [Nat.eq_of_beq_eq_true hb, ht] at hx; cases hx
      · rw [over_in ht]
        exact look_app_in (List.all_eq_true.1 h2 t (List.contains_iff_mem.1 ht))
    rw [this]; exact k1

/-! Slices within a slice. -/
theorem look_dup {r : Nat} {a b : AV} {e : Env} : look ((r, a) :: (r, b) :: e) = look ((r, a) :: e) := by
  funext t
  simp only [look]
  cases Nat.beq r t <;> rfl
theorem look_dup2 {r d : Nat} {a b c : AV} {e : Env} : look ((d, c) :: (r, a) :: (r, b) :: e) = look ((d, c) :: (r, a) :: e) := by
  have h := look_dup (r := r) (a := a) (b := b) (e := e)
  funext t
  have := congrFun h t
  simp only [look] at this ⊢
  cases Nat.beq d t
  · simp only [cond_false]; exact this
  · rfl
section
variable {l : List Oper}
/-- A slice within a slice that a register owns is loaded. -/
theorem WO.ldEO {x : Operand} {tx r a i e e2 s2 n : Nat} {rows : List (List α)} [hT : OnT P tx] (hg : gg all (look env) g = some true) (hx : ov (look env) x = .ad r [] a) (ha : a = i) (hr : look env r = .ow e 1 n (encL (eO e2 s2 f) rows)) (hi : i < rows.length) (hrd : Nat.beq r d = false) (hn : nrE d env = true)
    (k : WO P X all l (look ((d, .vw r [i] 0 (rows.getD i []).length) :: env)) R) : WO P X all (⟨some d, .load tx x, ty, pos, af, g⟩ :: l) (look env) R := by
  subst ha
  refine WO.ldOw (cs := encL (eO e2 s2 f) rows) (cs' := encL f (rows.getD a [])) (e := e2) (sz := s2) hg hx (by simp only [nodeCells, getN, hr]) ?_ hrd hn k
  have := encL_get (f := eO e2 s2 f) (sz := 1) (j := 0) hi (by omega) []
  rw [Nat.mul_one, Nat.add_zero] at this
  rw [this]; rfl
/-- A call that turns a slice within a slice. -/
theorem WO.callE {fn : FuncId} {x0 : Operand} {xs : List Operand} {ts : Array TypeId} {r i e e2 s2 n m : Nat} {rows : List (List α)} {row : List α} {as fin : List AV} {res : AV} [hW : Wid f s2] (hg : gg all (look env) g = some true) (hx : ov (look env) x0 = .vw r [i] 0 m) (hm : m = (rows.getD i []).length) (hr : look env r = .ow e 1 n (encL (eO e2 s2 f) rows)) (hi : i < rows.length) (ha : xs.map (ov (look env)) = as) (hp : as.all isPlA = true)
    (hf : Ev P X (.fn fn (.ow e2 s2 m (encL f (rows.getD i [])) :: as) res (.ow e2 s2 m (encL f row) :: fin))) (hml : row.length = m) (hi2 : noIm res = true) (hnr : noIm (.ow e2 s2 m (encL f row)) = true) (hfl : fin.length = as.length) (hne : nbE r 1 env = true) (hd : nrE d env = true) (hdr : nrA d res = true)
    (k : WO P X all l (look ((d, res) :: (r, .ow e 1 n (encL (eO e2 s2 f) (rows.set i row))) :: env)) R) : WO P X all (⟨some d, .call { callee := .value (.func fn), args := (x0 :: xs).toArray, argTypes := ts }, ty, pos, af, g⟩ :: l) (look env) R := by
  subst hm
  have hget : (encL (eO e2 s2 f) rows)[i]? = some (.ow e2 s2 (rows.getD i []).length (encL f (rows.getD i []))) := by
    have := encL_get (f := eO e2 s2 f) (sz := 1) (j := 0) hi (by omega) []
    rw [Nat.mul_one, Nat.add_zero] at this
    rw [this]; rfl
  have hset : ∀ v, setN [i] (look env r) v = .ow e 1 n ((encL (eO e2 s2 f) rows).set i v) := by
    intro v; simp only [setN, hr, kids, hget, withKids]
  have hrow : (encL (eO e2 s2 f) rows).set i (.ow e2 s2 (rows.getD i []).length (encL f row)) = encL (eO e2 s2 f) (rows.set i row) := by
    have := encL_set (f := eO e2 s2 f) (sz := 1) (j := 0) (c := .ow e2 s2 (rows.getD i []).length (encL f row)) (y := row) hi (by omega) [] (by simp only [eO, List.set_cons_zero, hml])
    rw [Nat.mul_one, Nat.add_zero] at this
    exact this
  refine WO.callM (p := [i]) hg hx (by simp only [getN, hr, kids, Option.bind_some, hget]) (encL_length _) ha hp hf (by simp only [hi2, hnr, Bool.and_self]) hfl hne (by rw [hset]; rfl) (by rw [hset]; rfl) (by rw [hset, hset]; simp only [nrE, nrA, hd, Bool.and_self]) hdr ?_
  rw [hset, hset, hrow, look_dup2]
  exact k
/-- A call that turns a slice that a register owns. -/
theorem WO.callR {fn : FuncId} {x0 : Operand} {xs : List Operand} {ts : Array TypeId} {r e sz n : Nat} {cs cs' : List AV} {as fin : List AV} {res : AV} (hg : gg all (look env) g = some true) (hx : ov (look env) x0 = .vw r [] 0 n) (hr : look env r = .ow e sz n cs) (hl : cs.length = n * sz) (ha : xs.map (ov (look env)) = as) (hp : as.all isPlA = true)
    (hf : Ev P X (.fn fn (.ow e sz n cs :: as) res (.ow e sz n cs' :: fin))) (hi2 : noIm res = true) (hnr : noIm (.ow e sz n cs') = true) (hfl : fin.length = as.length) (hne : nbE r 0 env = true) (hd : nrE d env = true) (hdr : nrA d res = true)
    (k : WO P X all l (look ((d, res) :: (r, .ow e sz n cs') :: env)) R) : WO P X all (⟨some d, .call { callee := .value (.func fn), args := (x0 :: xs).toArray, argTypes := ts }, ty, pos, af, g⟩ :: l) (look env) R := by
  refine WO.callM (p := []) hg hx (by simp only [getN, hr]) hl ha hp hf (by simp only [hi2, hnr, Bool.and_self]) hfl hne rfl rfl (by simp only [setN, nrE, nrA, hd, Bool.and_self]) hdr ?_
  simp only [setN]
  rw [look_dup2]
  exact k
end
/-- A slice of plain parts is built. -/
theorem WO.bs {l : List Oper} {tx e sz by_ n : Nat} {z : Value} {zc us cs : List AV} {parts : Array (Nat × Operand)} [hT : SlT P tx e sz] [hZ : ZrT P e by_ z zc] (hg : gg all (look env) g = some true) (hu : (parts.toList.map fun x => ov (look env) x.2) = us) (hp : us.all isPl = true) (hz : Nat.beq zc.length sz = true) (hl : Nat.ble (n * sz) 16777216 = true) (hf : fillA (fun i => some (i * sz, sz)) ((madeCells z.cells (n * sz)).toList.map c1) ((parts.toList.map (·.1)).zip us) = some cs) (hn : nrE d env = true)
    (k : WO P X all l (look ((d, .ow e sz n cs) :: env)) R) : WO P X all (⟨some d, .buildSlice tx n parts, ty, pos, af, g⟩ :: l) (look env) R := by
  refine WO.op (σ1 := put (look env) d (.ow e sz n cs)) (gg_goes hg) (.buildS (us := us) rfl rfl hT.ht hT.hs hZ.hz (zr_size hZ hz) hT.h0 (Nat.le_of_ble_eq_true hl) hZ.h1 (by rw [hu]; exact TakeL.pls hp) hf) ?_
  rw [put_look hn rfl]; exact k
theorem noImL_pl {cs : List AV} (h : cs.all (fun c => match c with | .sc _ => true | .nl => true | _ => false) = true) : noImL cs = true := by
  induction cs with
  | nil => rfl
  | cons c cs ih =>
    simp only [List.all_cons, Bool.and_eq_true] at h
    simp only [noImL, Bool.and_eq_true]
    refine ⟨?_, ih h.2⟩
    have := h.1
    cases c <;> simp_all [noIm]
theorem QE.mvSc {x : Operand} {v : Value} (hop : MV op x) (hx : ov (look env) x = .sc v) : Ev P X (.qe ⟨some d, op, ty, pos, af, g⟩ (look env) (.sc v)) := .qo (by have := hop.qo (P := P) (env := env); rwa [hx] at this)
theorem QE.mvIm {x : Operand} {n : Nat} {cs : List AV} (hop : MV op x) (hx : ov (look env) x = .im n cs) : Ev P X (.qe ⟨some d, op, ty, pos, af, g⟩ (look env) (.im n cs)) := .qo (by have := hop.qo (P := P) (env := env); rwa [hx] at this)
theorem QE.mvVw {x : Operand} {r off n : Nat} {p : List Nat} (hop : MV op x) (hx : ov (look env) x = .vw r p off n) : Ev P X (.qe ⟨some d, op, ty, pos, af, g⟩ (look env) (.vw r p off n)) := .qo (by have := hop.qo (P := P) (env := env); rwa [hx] at this)
theorem QE.mvAd {x : Operand} {r i : Nat} {p : List Nat} (hop : MV op x) (hx : ov (look env) x = .ad r p i) : Ev P X (.qe ⟨some d, op, ty, pos, af, g⟩ (look env) (.ad r p i)) := .qo (by have := hop.qo (P := P) (env := env); rwa [hx] at this)
theorem QE.ixI {x ix : Operand} {tx e sz : Nat} {k0 : IntKind} {i : Int} {xs : List α} [hT : SlT P tx e sz] [hW : Wid f sz] (dv : α) (hx : ov (look env) x = .im xs.length (encL f xs)) (hi : ov (look env) ix = .sc (.int k0 i)) (h0 : 0 ≤ i) (h1 : i < (xs.length : Int)) :
    Ev P X (.qe ⟨some d, .indexAddr tx x ix, ty, pos, af, g⟩ (look env) (.ip (f (xs.getD i.toNat dv) ++ encL f (xs.drop (i.toNat + 1))))) := by
  have hlt : i.toNat < xs.length := by omega
  have hz := hT.h0
  have hc : i.toNat * sz < (encL f xs).length := by rw [encL_length (sz := sz)]; exact Nat.mul_lt_mul_of_pos_right hlt hz
  have := QO.indexI (P := P) (σ := look env) tx x ix e sz k0 i xs.length (encL f xs) hT.ht hT.hs hi hx h0 h1 hc
  rw [encL_at (sz := sz) hlt dv] at this
  exact .qo this
theorem QE.ixN {x ix : Operand} {tx e sz : Nat} {k0 : IntKind} {i : Nat} {xs : List α} [hT : SlT P tx e sz] [hW : Wid f sz] (dv : α) (hx : ov (look env) x = .im xs.length (encL f xs)) (hi : ov (look env) ix = .sc (.int k0 (i : Int))) (h1 : i < xs.length) :
    Ev P X (.qe ⟨some d, .indexAddr tx x ix, ty, pos, af, g⟩ (look env) (.ip (f (xs.getD i dv) ++ encL f (xs.drop (i + 1))))) :=
  QE.ixI (f := f) dv hx hi (by omega) (by omega)
theorem QE.ixO {x ix : Operand} {tx e sz r off n m e' sz' : Nat} {p : List Nat} {k0 : IntKind} {i : Int} {cs : List AV} [hT : SlT P tx e sz] (hx : ov (look env) x = .vw r p off n) (hr : getN p (look env r) = some (.ow e' sz' m cs)) (hl : off + n * sz ≤ cs.length) (hi : ov (look env) ix = .sc (.int k0 i)) (h0 : 0 ≤ i) (h1 : i < (n : Int)) :
    Ev P X (.qe ⟨some d, .indexAddr tx x ix, ty, pos, af, g⟩ (look env) (.ad r p (off + i.toNat * sz))) :=
  .qo (.indexV tx x ix e sz k0 i r off n m e' sz' p cs hT.ht hT.hs hi hx hr hl hT.h0 h0 h1)
theorem QE.ldI {x : Operand} {tx : TypeId} {cs : List AV} {c : AV} [hT : OnT P tx] (hx : ov (look env) x = .ip cs) (hc : cs[0]? = some c) : Ev P X (.qe ⟨some d, .load tx x, ty, pos, af, g⟩ (look env) c) := .qo (.load tx x c (.one c hT.ht (by rw [hx]; exact hc)))
theorem QE.ldIA {x : Operand} {tx s : Nat} {cs rest : List AV} [hT : AgT P tx s] (hx : ov (look env) x = .ip (cs ++ rest)) (hl : cs.length = s) : Ev P X (.qe ⟨some d, .load tx x, ty, pos, af, g⟩ (look env) (.ag cs)) :=
  .qo (.load tx x (.ag cs) (.many cs s hT.ht hT.hs hl hT.h0 (fun k hk => by rw [hx]; simp only [cell]; rw [List.getElem?_append_left (by omega)])))
theorem QE.ldO {x : Operand} {tx r i : Nat} {p : List Nat} {cs : List AV} {c : AV} [hT : OnT P tx] (hx : ov (look env) x = .ad r p i) (hr : nodeCells (look env) r p = some cs) (hc : cs[i]? = some c) (hp : isPl c = true) : Ev P X (.qe ⟨some d, .load tx x, ty, pos, af, g⟩ (look env) c) :=
  .qo (.load tx x c (.one c hT.ht (by rw [hx]; simp only [cell, hr, Option.bind_some, Nat.add_zero, hc, Option.map_some, refT_pl hp])))
theorem QE.flI {x : Operand} {s fd off : Nat} {cs : List AV} [hT : FlT P s fd off] (hc : ov (look env) x = .ip cs) : Ev P X (.qe ⟨some d, .fieldAddr s x fd, ty, pos, af, g⟩ (look env) (.ip (cs.drop off))) := by
  obtain ⟨fs, f', n, h1, h2, h3, h4, rfl⟩ := flT_some hT.h
  exact .qo (.fieldAddr s x fd n fs f' _ h1 h2 h3 h4 (by rw [hc]; rfl))
theorem QE.not {x : Operand} {tx : TypeId} {b : Bool} (hx : ov (look env) x = .sc (.bool b)) : Ev P X (.qe ⟨some d, .unOp .not tx x, ty, pos, af, g⟩ (look env) (.sc (.bool (!b)))) := .qo (qo_not hx)
theorem QE.len {x : Operand} {tx e sz n : Nat} {cs : List AV} [hT : SlT P tx e sz] (hx : ov (look env) x = .im n cs) : Ev P X (.qe ⟨some d, .call { callee := .builtin .len, args := #[x], argTypes := #[tx] }, ty, pos, af, g⟩ (look env) (.sc (.int .i64 n))) := .qo (.lenI tx x e n cs hT.ht hx)
theorem QE.bin {o : BinOp} {x y : Operand} {tx ty2 : TypeId} {a b : Int} {v : Value} (hx : ov (look env) x = .sc (.int .i64 a)) (hy : ov (look env) y = .sc (.int .i64 b)) (h : bin64 o a b = some v) (hc : cAV v = .sc v) : Ev P X (.qe ⟨some d, .binOp o tx x y ty2, ty, pos, af, g⟩ (look env) (.sc v)) :=
  .qo (by have := qo_bin (P := P) (ty := ty2) (tx := tx) hx hy h; rwa [hc] at this)
theorem QE.call {fn : FuncId} {xs : Array Operand} {ts : Array TypeId} {args fin : List AV} {res : AV} (ha : xs.toList.map (ov (look env)) = args) (hp : args.all isPlA = true) (hf : Ev P X (.fn fn args res fin)) : Ev P X (.qe ⟨some d, .call { callee := .value (.func fn), args := xs, argTypes := ts }, ty, pos, af, g⟩ (look env) res) :=
  .qcall rfl (by rw [ha]; exact FrzL.plains hp) hf (.inr (by rw [ha]; exact hp))
end
end Go.Eng
