/- The engine, part G: structs and slices that are put together; the quiet operations as one relation. -/
import Derived.Test.YtdihagagelngiaaEngF
import Derived.Great.BuildSlice
namespace Go.Eng
open Go
set_option linter.unusedVariables false
set_option linter.unusedSimpArgs false
section
variable {P : Program} {w w' : World} {Sh Sh' : Foot} {Fs : Nat → Foot} {V : Nat → Value} {σ : Nat → AV} {K : Value → AV → Prop}
variable {a : Act} {o : Oper}

theorem Reps.append : ∀ {cs ds : List AV} {F G : Foot} {xs ys : List Value}, Reps w Sh K cs F xs → Reps w Sh K ds G ys → Disj F G → Reps w Sh K (cs ++ ds) (Or F G) (xs ++ ys)
  | [], ds, F, G, xs, ys, h, k, d => by
    simp only [Reps] at h; subst h
    exact Reps.wider (Le.refl _) (fun _ _ h => h) (Le.right _ _) k
  | c :: cs, ds, F, G, xs, ys, h, k, d => by
    simp only [Reps] at h
    obtain ⟨x, xs', F1, F2, rfl, h1, h2, hd, l1, l2⟩ := h
    simp only [List.cons_append, Reps]
    exact ⟨x, xs' ++ ys, F1, Or F2 G, rfl, h1, h2.append k (d.le l2 (Le.refl _)), Disj.or hd (d.le l1 (Le.refl _)), l1.trans (Le.left _ _), Le.or (l2.trans (Le.left _ _)) (Le.right _ _)⟩
theorem Reps.split : ∀ (k : Nat) {cs : List AV} {F : Foot} {xs : List Value}, Reps w Sh K cs F xs → ∃ F1 F2, Reps w Sh K (cs.take k) F1 (xs.take k) ∧ Reps w Sh K (cs.drop k) F2 (xs.drop k) ∧ Disj F1 F2 ∧ Le F1 F ∧ Le F2 F
  | 0, cs, F, xs, h => ⟨noF, F, by simp [Reps], by simpa using h, Disj.no' _, Le.no _, Le.refl _⟩
  | k + 1, [], F, xs, h => by simp only [Reps] at h; subst h; exact ⟨noF, noF, by simp [Reps], by simp [Reps], Disj.no _, Le.no _, Le.no _⟩
  | k + 1, c :: cs, F, xs, h => by
    simp only [Reps] at h
    obtain ⟨x, xs', F1, F2, rfl, h1, h2, hd, l1, l2⟩ := h
    obtain ⟨G1, G2, g1, g2, g3, g4, g5⟩ := h2.split k
    refine ⟨Or F1 G1, G2, ?_, by simpa using g2, Disj.or' (hd.le (Le.refl _) g5) g3, Le.or l1 (g4.trans l2), g5.trans l2⟩
    simp only [List.take_succ_cons, Reps]
    exact ⟨x, _, F1, G1, rfl, h1, g1, hd.le (Le.refl _) g4, Le.left _ _, Le.right _ _⟩
def splice {α : Type} (cs : List α) (off : Nat) (vs : List α) : List α := cs.take off ++ (vs ++ cs.drop (off + vs.length))
theorem Reps.splice {cs vs : List AV} {F G : Foot} {xs ys : List Value} (h : Reps w Sh K cs F xs) (k : Reps w Sh K vs G ys) (d : Disj F G) (off : Nat) : Reps w Sh K (splice cs off vs) (Or F G) (splice xs off ys) := by
  obtain ⟨F1, F2, h1, h2, h3, h4, h5⟩ := h.split off
  obtain ⟨F3, F4, k1, k2, k3, k4, k5⟩ := h2.split vs.length
  have e : (xs.drop off).drop vs.length = xs.drop (off + ys.length) := by rw [List.drop_drop, k.length]
  have e' : (cs.drop off).drop vs.length = cs.drop (off + vs.length) := by rw [List.drop_drop]
  rw [e, e'] at k2
  unfold Eng.splice
  refine Reps.wider (Le.refl _) (fun _ _ h => h) ?_ (h1.append (k.append k2 ((d.symm).le (Le.refl _) (k5.trans h5))) (Disj.or (d.le h4 (Le.refl _)) (h3.le (Le.refl _) k5)))
  exact Le.or (h4.trans (Le.left _ _)) (Le.or (Le.right _ _) ((k5.trans h5).trans (Le.left _ _)))
theorem length_splice {α : Type} {cs vs : List α} {off : Nat} (h : off + vs.length ≤ cs.length) : (splice cs off vs).length = cs.length := by
  simp [splice]; omega
theorem fill_cells (off : Nat) : ∀ (vs : List Value) (k : Nat) (cells : Array Value), off + k + vs.length ≤ cells.size → ((vs.zipIdx k).foldl (fun (cs : Array Value) (x : Value × Nat) => cs.setIfInBounds (off + x.2) x.1) cells).toList = splice cells.toList (off + k) vs
  | [], k, cells, h => by simp [splice]
  | v :: vs, k, cells, h => by
    simp only [List.length_cons] at h
    simp only [List.zipIdx_cons, List.foldl_cons]
    rw [fill_cells off vs (k + 1) _ (by simp; omega)]
    simp only [splice, Array.toList_setIfInBounds, List.length_cons]
    have hl : off + k < cells.toList.length := by simp; omega
    rw [show off + (k + 1) = off + k + 1 by omega, List.take_set, List.drop_set_of_lt (by omega)]
    rw [List.take_add_one, List.getElem?_eq_getElem hl, List.set_append_right _ _ (by simp; omega)]
    simp only [List.length_take, Nat.min_eq_left (Nat.le_of_lt hl), Nat.sub_self, Option.toList_some, List.set_cons_zero, List.append_assoc, List.cons_append, List.nil_append]
    rw [show off + k + 1 + vs.length = off + k + (vs.length + 1) by omega]

def acells : AV → Option (List AV)
  | .ag cs => some cs
  | .dead => none
  | .tu _ => none
  | a => some [a]
theorem Rep.acells {av : AV} {F : Foot} {v : Value} {vs : List AV} (h : Rep w Sh K av F v) (e : acells av = some vs) : Reps w Sh K vs F v.cells.toList ∧ ∀ u ∈ v.cells.toList, u.oneCell' = true := by
  have one : ∀ {v : Value}, v.oneCell' = true → Rep w Sh K av F v → Reps w Sh K [av] F v.cells.toList ∧ ∀ u ∈ v.cells.toList, u.oneCell' = true := by
    intro v hv h
    have hc : v.cells = #[v] := by cases v <;> first | rfl | simp [Value.oneCell'] at hv
    rw [hc]
    refine ⟨?_, fun u hu => by simp at hu; subst hu; exact hv⟩
    simp only [Reps]
    exact ⟨v, [], F, noF, rfl, h, rfl, Disj.no _, Le.refl _, Le.no _⟩
  cases av <;> simp only [Eng.acells, reduceCtorEq, Option.some.injEq] at e
  case ag cs =>
    subst e
    simp only [Rep] at h
    obtain ⟨xs, rfl, h1, hr⟩ := h
    exact ⟨hr, h1⟩
  case sc u => subst e; have h' := h; simp only [Rep] at h'; exact one h'.2 h
  case nl => subst e; have h' := h; simp only [Rep] at h'; subst h'; exact one rfl h
  case im n cs => subst e; have h' := h; simp only [Rep] at h'; obtain ⟨A, cap, xs, rfl, -⟩ := h'; exact one rfl h
  case ow e sz n cs =>
    subst e; have h' := h; simp only [Rep] at h'; obtain ⟨xs, G, ho, -⟩ := h'
    refine one ?_ h
    rcases ho.2 with ⟨rfl, rfl⟩ | ⟨g, cap, cur, rfl, -⟩ <;> rfl
  case ip cs => subst e; have h' := h; simp only [Rep] at h'; obtain ⟨ad, xs, rfl, -⟩ := h'; exact one rfl h
  case op cs => subst e; have h' := h; simp only [Rep] at h'; obtain ⟨ad, xs, G, rfl, -⟩ := h'; exact one rfl h
  case vw r p off n => subst e; have h' := h; simp only [Rep] at h'; exact one h'.2 h
  case ad r p i => subst e; have h' := h; simp only [Rep] at h'; exact one h'.2 h

def fillA (place : Nat → Option (Nat × Nat)) : List AV → List (Nat × AV) → Option (List AV)
  | cells, [] => some cells
  | cells, (i, v) :: rest => (place i).bind fun x => (acells v).bind fun vs => if vs.length = x.2 ∧ x.1 + vs.length ≤ cells.length then fillA place (splice cells x.1 vs) rest else none
theorem fillA_ok {place : Nat → Option (Nat × Nat)} : ∀ (parts : List (Nat × AV)) (vals : List (Nat × Value)) {cells : List AV} {F G : Foot} {xs : Array Value} {cs' : List AV}, parts.map (·.1) = vals.map (·.1) → Reps w Sh K (parts.map (·.2)) G (vals.map (·.2)) → Reps w Sh K cells F xs.toList → (∀ u ∈ xs.toList, u.oneCell' = true) → Disj F G → fillA place cells parts = some cs' →
    ∃ xs', Instr.fill place xs vals = some xs' ∧ Reps w Sh K cs' (Or F G) xs'.toList ∧ (∀ u ∈ xs'.toList, u.oneCell' = true) ∧ xs'.size = xs.size
  | [], vals, cells, F, G, xs, cs', hm, hp, hc, h1, hd, he => by
    cases vals with
    | nil =>
      simp only [fillA, Option.some.injEq] at he
      subst he
      exact ⟨xs, rfl, Reps.wider (Le.refl _) (fun _ _ h => h) (Le.left _ _) hc, h1, rfl⟩
    | cons _ _ => simp at hm
  | (i, v) :: rest, vals, cells, F, G, xs, cs', hm, hp, hc, h1, hd, he => by
    cases vals with
    | nil => simp at hm
    | cons y ys =>
      obtain ⟨i', u⟩ := y
      simp only [List.map_cons, List.cons.injEq] at hm
      obtain ⟨rfl, hm⟩ := hm
      simp only [List.map_cons, Reps] at hp
      obtain ⟨x, xs', F1, F2, e0, r1, r2, rd, l1, l2⟩ := hp
      simp only [List.cons.injEq] at e0
      obtain ⟨rfl, rfl⟩ := e0
      simp only [fillA, Option.bind_eq_some_iff] at he
      obtain ⟨⟨off, size⟩, hpl, vs, hvs, he⟩ := he
      split at he
      · rename_i hcond
        obtain ⟨c1, c2⟩ := hcond
        obtain ⟨q1, q2⟩ := r1.acells hvs
        have hlen : vs.length = u.cells.size := by rw [q1.length]; simp
        have hcl : cells.length = xs.size := by rw [hc.length]; simp
        let xs2 := u.cells.zipIdx.foldl (fun (cs : Array Value) (x : Value × Nat) => cs.setIfInBounds (off + x.2) x.1) xs
        have hxs2 : xs2.toList = splice xs.toList off u.cells.toList := by
          have := fill_cells off u.cells.toList 0 xs (by simp; omega)
          rw [Nat.add_zero] at this
          rw [← this]
          simp only [xs2]
          rw [← Array.foldl_toList, Array.toList_zipIdx]
        have hsz : xs2.size = xs.size := by
          have := congrArg List.length hxs2
          rw [length_splice (by simp; omega)] at this
          simpa using this
        obtain ⟨xs', f1, f2, f3, f4⟩ := fillA_ok rest ys (F := Or F F1) (G := F2) (xs := xs2) hm r2 (by rw [hxs2]; exact hc.splice q1 (hd.le (Le.refl _) l1) off) (fun z hz => by
          rw [hxs2] at hz
          simp only [splice, List.mem_append] at hz
          rcases hz with hz | hz | hz
          · exact h1 z (List.mem_of_mem_take hz)
          · exact q2 z hz
          · exact h1 z (List.mem_of_mem_drop hz)) (Disj.or' (hd.le (Le.refl _) l2) rd) he
        refine ⟨xs', ?_, Reps.wider (Le.refl _) (fun _ _ h => h) (Le.or (Le.or (Le.left _ _) (l1.trans (Le.right _ _))) (l2.trans (Le.right _ _))) f2, f3, f4.trans hsz⟩
        have hcond : (decide (u.cells.size ≠ size) || decide (off + u.cells.size > xs.size)) = false := by
          have a1 : u.cells.size = size := by omega
          have a2 : ¬ (off + u.cells.size > xs.size) := by omega
          simp [a1, a2]
          omega
        simp only [Instr.fill, hpl]
        rw [if_neg (by rw [hcond]; simp)]
        exact f1
      · cases he

/-- What a struct or an array is built of. -/
def builtA (P : Program) (t : TypeId) (parts : List (Nat × AV)) : Option (List AV) :=
  match P.info? t, P.underlying t with
  | some it, some (.array _ e) =>
    match it.zero, P.info? e with
    | some z, some ie => if z.cells.toList.all (·.oneCell') then fillA (fun i => some (i * ie.size, ie.size)) (z.cells.toList.map c1) parts else none
    | _, _ => none
  | some it, some (.struct fields) =>
    match it.zero, fields.toList.mapM (fun f => (P.info? f.type).map fun i => (f.offset, i.size)) with
    | some z, some places => if z.cells.toList.all (·.oneCell') then fillA (places.toArray[·]?) (z.cells.toList.map c1) parts else none
    | _, _ => none
  | _, _ => none
theorem builtA_ok {t : TypeId} {parts : List (Nat × AV)} {vals : List (Nat × Value)} {G : Foot} {cs : List AV} (hm : parts.map (·.1) = vals.map (·.1)) (hp : Reps w Sh K (parts.map (·.2)) G (vals.map (·.2))) (h : builtA P t parts = some cs) :
    ∃ xs, P.built t vals = some xs ∧ Reps w Sh K cs G xs.toList ∧ ∀ u ∈ xs.toList, u.oneCell' = true := by
  have fin : ∀ (place : Nat → Option (Nat × Nat)) (z : Value), z.cells.toList.all (·.oneCell') = true → fillA place (z.cells.toList.map c1) parts = some cs → ∃ xs, Instr.fill place z.cells vals = some xs ∧ Reps w Sh K cs G xs.toList ∧ ∀ u ∈ xs.toList, u.oneCell' = true := by
    intro place z hz hf
    obtain ⟨xs', f1, f2, f3, f4⟩ := fillA_ok parts vals (F := noF) hm hp (Reps.c1 _) (fun u hu => List.all_eq_true.1 hz u hu) (Disj.no' _) hf
    exact ⟨xs', f1, Reps.wider (Le.refl _) (fun _ _ h => h) (Le.or (Le.no _) (Le.refl _)) f2, f3⟩
  unfold builtA at h
  unfold Program.built
  cases hit : P.info? t with
  | none => simp [hit] at h
  | some it =>
    cases hu : P.underlying t with
    | none => simp [hit, hu] at h
    | some d =>
      cases hz : it.zero with
      | none => cases d <;> simp [hit, hu, hz] at h
      | some z =>
        cases d <;> try (simp [hit, hu] at h; done)
        case array n e =>
          cases hie : P.info? e with
          | none => simp [hit, hu, hz, hie] at h
          | some ie =>
            simp only [hit, hu, hz, hie] at h ⊢
            split at h
            · rename_i hall; exact fin _ z hall h
            · cases h
        case struct fields =>
          cases hp' : fields.toList.mapM (fun f => (P.info? f.type).map fun i => (f.offset, i.size)) with
          | none => simp [hit, hu, hz, hp'] at h
          | some places =>
            simp only [hit, hu, hz, hp'] at h ⊢
            split at h
            · rename_i hall; exact fin _ z hall h
            · cases h
theorem Inv.ovs (I : Inv w Sh Fs V σ) (hA : VA a V) : ∀ (parts : List (Nat × Operand)), Reps w Sh (KS w V σ) ((parts.map fun x => (x.1, Eng.ov σ x.2)).map (·.2)) noF ((parts.map fun x => (x.1, a.eval x.2)).map (·.2))
  | [] => by simp [Reps]
  | x :: xs => by
    have := I.ovs hA xs
    simp only [List.map_cons, Reps]
    exact ⟨_, _, noF, noF, rfl, I.ov hA x.2, this, Disj.no _, Le.refl _, Le.refl _⟩
theorem gives_build (I : Inv w Sh Fs V σ) (hA : VA a V) {t : TypeId} {parts : Array (Nat × Operand)} {cs : List AV} (ho : o.op = .build t parts) (hb : builtA P t (parts.toList.map fun x => (x.1, ov σ x.2)) = some cs) : Gives P w Sh V σ (execOp a.eval o) (.ag cs) := by
  obtain ⟨xs, h1, h2, h3⟩ := builtA_ok (vals := parts.toList.map fun x => (x.1, a.eval x.2)) (by simp [List.map_map, Function.comp_def]) (I.ovs hA parts.toList) hb
  refine Gives.same (v := .agg xs) ?_ ?_
  · have hp : (parts.map fun (i, x) => (i, a.eval x)).toList = parts.toList.map fun x => (x.1, a.eval x.2) := by simp
    rw [← hp] at h1
    simp only [execOp, ho, Sem.run_bind, run_build w t _ xs h1, Result.andThen_ok, Sem.run_pure]
  · simp only [Rep]; exact ⟨xs, rfl, h3, h2⟩
end

/-- What is loaded. -/
inductive LD (P : Program) (σ : Nat → AV) (t : TypeId) (x : AV) : AV → Prop
  | one (c : AV) (ht : aggT P t = some false) (hc : cell σ x 0 = some c) : LD P σ t x c
  | many (L : List AV) (s : Nat) (ht : aggT P t = some true) (hs : szT P t = some s) (hl : L.length = s) (h0 : 0 < s) (hc : ∀ k, k < s → cell σ x k = L[k]?) : LD P σ t x (.ag L)
/-- The quiet operations, and what each gives. -/
inductive QO (P : Program) (σ : Nat → AV) : Op → AV → Prop
  | move (x : Operand) : QO P σ (.move x) (ov σ x)
  | assign (x : Operand) : QO P σ (.assign x) (ov σ x)
  | pick (c x y : Operand) (t : Bool) (hc : ov σ c = .sc (.bool t)) : QO P σ (.pick c x y) (bif t then ov σ x else ov σ y)
  | pure (op : Op) (c : Value) (h : ∀ (ρ : Operand → Value) (o : Oper) (w : World), o.op = op → (∀ x v, toV (ov σ x) = some v → ρ x = v) → (execOp ρ o).run P w = .ok (.value c) w) : QO P σ op (cAV c)
  | load (t : TypeId) (x : Operand) (c : AV) (h : LD P σ t (ov σ x) c) : QO P σ (.load t x) c
  | nilCheck (x : Operand) (c : AV) (hc : adv σ (ov σ x) 0 = some c) : QO P σ (.nilCheck x) c
  | fieldAddr (s : TypeId) (x : Operand) (f n : Nat) (fs : Array Field) (fd : Field) (c : AV) (hs : P.underlying s = some (.struct fs)) (hf : fs[f]? = some fd) (hn : szT P fd.type = some n) (h0 : 0 < n) (hc : adv σ (ov σ x) fd.offset = some c) : QO P σ (.fieldAddr s x f) c
  | indexA (t : TypeId) (x ix : Operand) (len n : Nat) (e : TypeId) (k : IntKind) (i : Int) (c : AV) (ht : P.underlying t = some (.array len e)) (hn : szT P e = some n) (hi : ov σ ix = .sc (.int k i)) (h0 : 0 ≤ i) (h1 : i < len) (hc : adv σ (ov σ x) (i.toNat * n) = some c) : QO P σ (.indexAddr t x ix) c
  | indexV (t : TypeId) (x ix : Operand) (e sz : Nat) (k : IntKind) (i : Int) (r off n m e' sz' : Nat) (p : List Nat) (cs : List AV) (ht : P.underlying t = some (.slice e)) (hs : szT P e = some sz) (hi : ov σ ix = .sc (.int k i)) (hx : ov σ x = .vw r p off n) (hn : getN p (σ r) = some (.ow e' sz' m cs)) (hlen : off + n * sz ≤ cs.length) (hz : 0 < sz) (h0 : 0 ≤ i) (h1 : i < n) : QO P σ (.indexAddr t x ix) (.ad r p (off + i.toNat * sz))
  | indexI (t : TypeId) (x ix : Operand) (e sz : Nat) (k : IntKind) (i : Int) (n : Nat) (cs : List AV) (ht : P.underlying t = some (.slice e)) (hs : szT P e = some sz) (hi : ov σ ix = .sc (.int k i)) (hx : ov σ x = .im n cs) (h0 : 0 ≤ i) (h1 : i < n) (hlen : i.toNat * sz < cs.length) : QO P σ (.indexAddr t x ix) (.ip (cs.drop (i.toNat * sz)))
  | sliceV (t : TypeId) (x : Operand) (lo hi : Option Operand) (e sz : Nat) (l h : Int) (r off n m e' sz' : Nat) (p : List Nat) (cs : List AV) (ht : P.underlying t = some (.slice e)) (hs : szT P e = some sz) (hz : 0 < sz) (hx : ov σ x = .vw r p off n) (hn : getN p (σ r) = some (.ow e' sz' m cs)) (hl : bnd σ 0 lo = some l) (hh : bnd σ n hi = some h) (h0 : 0 ≤ l) (h1 : l ≤ h) (h2 : h ≤ n) : QO P σ (.slice t x lo hi none) (.vw r p (off + l.toNat * sz) (h.toNat - l.toNat))
  | sliceI (t : TypeId) (x : Operand) (lo hi : Option Operand) (e sz : Nat) (l h : Int) (n : Nat) (cs : List AV) (ht : P.underlying t = some (.slice e)) (hs : szT P e = some sz) (hz : 0 < sz) (hx : ov σ x = .im n cs) (hl : bnd σ 0 lo = some l) (hh : bnd σ n hi = some h) (h0 : 0 ≤ l) (h1 : l ≤ h) (h2 : h ≤ n) : QO P σ (.slice t x lo hi none) (.im (h.toNat - l.toNat) ((cs.drop (l.toNat * sz)).take ((h.toNat - l.toNat) * sz)))
  | sliceN (t : TypeId) (x : Operand) (lo hi : Option Operand) (e sz : Nat) (ht : P.underlying t = some (.slice e)) (hs : szT P e = some sz) (hx : ov σ x = .nl) (hl : bnd σ 0 lo = some 0) (hh : bnd σ 0 hi = some 0) : QO P σ (.slice t x lo hi none) .nl
  | lenV (t : TypeId) (x : Operand) (e : TypeId) (r off n e' sz' m : Nat) (p : List Nat) (cs : List AV) (ht : P.underlying t = some (.slice e)) (hx : ov σ x = .vw r p off n) (hn : getN p (σ r) = some (.ow e' sz' m cs)) : QO P σ (.call { callee := .builtin .len, args := #[x], argTypes := #[t] }) (.sc (.int .i64 n))
  | lenI (t : TypeId) (x : Operand) (e : TypeId) (n : Nat) (cs : List AV) (ht : P.underlying t = some (.slice e)) (hx : ov σ x = .im n cs) : QO P σ (.call { callee := .builtin .len, args := #[x], argTypes := #[t] }) (.sc (.int .i64 n))
  | lenN (t : TypeId) (x : Operand) (e : TypeId) (ht : P.underlying t = some (.slice e)) (hx : ov σ x = .nl) : QO P σ (.call { callee := .builtin .len, args := #[x], argTypes := #[t] }) (.sc (.int .i64 0))
  | alloc (e : TypeId) (z : Value) (hz : zeroT P e = some z) (h1 : z.cells.toList.all (·.oneCell') = true) : QO P σ (.alloc e) (.op (z.cells.toList.map c1))
  | makeSlice (t e sz by_ : Nat) (l c : Operand) (k k' : IntKind) (n : Nat) (z : Value) (ht : P.underlying t = some (.slice e)) (hs : szT P e = some sz) (hb : bytesT P e = some by_) (hz : zeroT P e = some z) (hzs : z.cells.size = sz) (h0 : 0 < sz) (hl : ov σ l = .sc (.int k n)) (hc : ov σ c = .sc (.int k' n)) (h63 : n ≤ maxLen) (hby : n * by_ ≤ 140737488355328) (h1 : z.cells.toList.all (·.oneCell') = true) : QO P σ (.makeSlice t l c) (.ow e sz n ((madeCells z.cells (n * sz)).toList.map c1))
  | build (t : TypeId) (parts : Array (Nat × Operand)) (cs : List AV) (hb : builtA P t (parts.toList.map fun x => (x.1, ov σ x.2)) = some cs) : QO P σ (.build t parts) (.ag cs)
  | extract (x : Operand) (i : Nat) (cs : List AV) (c : AV) (hx : ov σ x = .tu cs) (hc : cs[i]? = some c) : QO P σ (.extract x i) c
  | field1 (t : TypeId) (x : Operand) (i : Nat) (cs : List AV) (c : AV) (fs : Array Field) (fd : Field) (ht : P.underlying t = some (.struct fs)) (hf : fs[i]? = some fd) (hg : aggT P fd.type = some false) (hx : ov σ x = .ag cs) (hc : cs[fd.offset]? = some c) : QO P σ (.field t x i) c
  | fieldA (t : TypeId) (x : Operand) (i s : Nat) (cs : List AV) (fs : Array Field) (fd : Field) (ht : P.underlying t = some (.struct fs)) (hf : fs[i]? = some fd) (hg : aggT P fd.type = some true) (hs : szT P fd.type = some s) (hx : ov σ x = .ag cs) : QO P σ (.field t x i) (.ag ((cs.drop fd.offset).take s))
  | index1 (t : TypeId) (x ix : Operand) (len n : Nat) (e : TypeId) (k : IntKind) (i : Int) (cs : List AV) (c : AV) (ht : P.underlying t = some (.array len e)) (hg : aggT P e = some false) (hn : szT P e = some n) (hi : ov σ ix = .sc (.int k i)) (h0 : 0 ≤ i) (h1 : i < len) (hx : ov σ x = .ag cs) (hc : cs[i.toNat * n]? = some c) : QO P σ (.index t x ix) c

section
variable {P : Program} {w : World} {Sh : Foot} {Fs : Nat → Foot} {V : Nat → Value} {σ : Nat → AV} {a : Act} {o : Oper}
theorem QO.sound (I : Inv w Sh Fs V σ) (hA : VA a V) {op : Op} {av : AV} (h : QO P σ op av) (ho : o.op = op) : Gives P w Sh V σ (execOp a.eval o) av := by
  cases h with
  | move x => exact Gives.same (v := a.eval x) (by simp [execOp, ho]) (I.ov hA x)
  | assign x => exact Gives.same (v := a.eval x) (by simp [execOp, ho]) (I.ov hA x)
  | pick c x y t hc =>
    have e := ov_int I hA hc
    cases t
    · exact Gives.same (v := a.eval y) (by simp [execOp, ho, e, asBool]) (I.ov hA y)
    · exact Gives.same (v := a.eval x) (by simp [execOp, ho, e, asBool]) (I.ov hA x)
  | pure _ c h => exact gives_pure I hA fun ρ w hρ => h ρ o w ho hρ
  | load t x c h =>
    cases h with
    | one c ht hc => exact gives_load1 I hA ho ht hc
    | many L s ht hs hl h0 hc => exact gives_loadA I hA ho ht hs hl h0 hc
  | nilCheck x c hc => exact gives_nilCheck I hA ho hc
  | fieldAddr s x f n fs fd c hs hf hn h0 hc => exact gives_fieldAddr I hA ho hs hf hn h0 hc
  | indexA t x ix len n e k i c ht hn hi h0 h1 hc => exact gives_indexA I hA ho ht hn (ov_int I hA hi) h0 h1 hc
  | indexV t x ix e sz k i r off n m e' sz' p cs ht hs hi hx hn hlen hz h0 h1 => exact gives_indexV I hA ho ht hs (ov_int I hA hi) hx hn hlen hz h0 h1
  | indexI t x ix e sz k i n cs ht hs hi hx h0 h1 hlen => exact gives_indexI I hA ho ht hs (ov_int I hA hi) hx h0 h1 hlen
  | sliceV t x lo hi e sz l h r off n m e' sz' p cs ht hs hz hx hn hl hh h0 h1 h2 => exact gives_sliceV I hA ho ht hs hz hx hn hl hh h0 h1 h2
  | sliceI t x lo hi e sz l h n cs ht hs hz hx hl hh h0 h1 h2 => exact gives_sliceI I hA ho ht hs hz hx hl hh h0 h1 h2
  | sliceN t x lo hi e sz ht hs hx hl hh => exact gives_sliceN I hA ho ht hs hx hl hh
  | lenV t x e r off n e' sz' m p cs ht hx hn => exact gives_lenV I hA ho ht hx hn
  | lenI t x e n cs ht hx => exact gives_lenI I hA ho ht hx
  | lenN t x e ht hx => exact gives_lenN I hA ho ht hx
  | alloc e z hz h1 => exact gives_alloc I hA ho hz h1
  | makeSlice t e sz by_ l c k k' n z ht hs hb hz hzs h0 hl hc h63 hby h1 => exact gives_makeSlice I hA ho ht hs hb hz hzs h0 (ov_int I hA hl) (ov_int I hA hc) h63 hby h1
  | build t parts cs hb => exact gives_build I hA ho hb
  | extract x i cs c hx hc => exact gives_extract I hA ho hx hc
  | field1 t x i cs c fs fd ht hf hg hx hc => exact gives_field1 I hA ho ht hf hg hx hc
  | fieldA t x i s cs fs fd ht hf hg hs hx => exact gives_fieldA I hA ho ht hf hg hs hx
  | index1 t x ix len n e k i cs c ht hg hn hi h0 h1 hx hc => exact gives_index1 I hA ho ht hg hn (ov_int I hA hi) h0 h1 hx hc
end
end Go.Eng
