/- The engine, part F: more quiet operations: lengths, plain values, variables and slices that are made, structs and their fields; and all of them told as one relation. -/
import Derived.Test.YtdihagagelngiaaEngE
namespace Go.Eng
open Go
set_option linter.unusedVariables false
set_option linter.unusedSimpArgs false
section
variable {P : Program} {w w' : World} {Sh Sh' : Foot} {Fs : Nat → Foot} {V : Nat → Value} {σ : Nat → AV} {K : Value → AV → Prop}
variable {a : Act} {o : Oper}

theorem rep_int {n : Int} {k : IntKind} : Rep w Sh K (.sc (.int k n)) noF (.int k n) := by simp [Rep, Value.oneCell']
theorem run_lenOp {t : TypeId} {x : Operand} {e : TypeId} {A : Option Addr} {n cap : Nat} (ho : o.op = .call { callee := .builtin .len, args := #[x], argTypes := #[t] }) (ht : P.underlying t = some (.slice e)) (hx : a.eval x = .slice A n cap) : (execOp a.eval o).run P w = .ok (.value (.int .i64 n)) w := by
  simp [execOp, ho, resolve, invoke, builtin, Builtin.len_, run_underlying ht, hx, goInt]
theorem gives_lenV (I : Inv w Sh Fs V σ) (hA : VA a V) {t : TypeId} {x : Operand} {e : TypeId} {r off n e' sz' m : Nat} {p : List Nat} {cs : List AV} (ho : o.op = .call { callee := .builtin .len, args := #[x], argTypes := #[t] }) (ht : P.underlying t = some (.slice e))
    (hx : ov σ x = .vw r p off n) (hn : getN p (σ r) = some (.ow e' sz' m cs)) : Gives P w Sh V σ (execOp a.eval o) (.sc (.int .i64 n)) := by
  have hr := I.ov hA x
  rw [hx] at hr
  obtain ⟨hd, A, m', cap, A', cap', hat, e1, e2, -⟩ := I.view hr hn
  exact Gives.same (run_lenOp ho ht e2) rep_int
theorem gives_lenI (I : Inv w Sh Fs V σ) (hA : VA a V) {t : TypeId} {x : Operand} {e : TypeId} {n : Nat} {cs : List AV} (ho : o.op = .call { callee := .builtin .len, args := #[x], argTypes := #[t] }) (ht : P.underlying t = some (.slice e))
    (hx : ov σ x = .im n cs) : Gives P w Sh V σ (execOp a.eval o) (.sc (.int .i64 n)) := by
  have hr := I.ov hA x
  rw [hx] at hr
  simp only [Rep] at hr
  obtain ⟨A, cap, xs, e1, -⟩ := hr
  exact Gives.same (run_lenOp ho ht e1) rep_int
theorem gives_lenN (I : Inv w Sh Fs V σ) (hA : VA a V) {t : TypeId} {x : Operand} {e : TypeId} (ho : o.op = .call { callee := .builtin .len, args := #[x], argTypes := #[t] }) (ht : P.underlying t = some (.slice e))
    (hx : ov σ x = .nl) : Gives P w Sh V σ (execOp a.eval o) (.sc (.int .i64 0)) := by
  have hr := I.ov hA x
  rw [hx] at hr
  simp only [Rep] at hr
  exact Gives.same (run_lenOp ho ht hr) rep_int

/-- What an abstract value is, where it is plain. -/
def toVs : List AV → Option (List Value)
  | [] => some []
  | .sc v :: cs => (toVs cs).map (v :: ·)
  | .nl :: cs => (toVs cs).map (.slice none 0 0 :: ·)
  | _ => none
def toV : AV → Option Value
  | .sc v => some v
  | .nl => some (.slice none 0 0)
  | .ag cs => (toVs cs).map fun l => .agg l.toArray
  | _ => none
theorem Reps.toVs : ∀ {cs : List AV} {F : Foot} {xs ys : List Value}, Reps w Sh K cs F xs → toVs cs = some ys → xs = ys
  | [], F, xs, ys, h, e => by simp only [Reps] at h; simp only [Eng.toVs, Option.some.injEq] at e; rw [h, ← e]
  | c :: cs, F, xs, ys, h, e => by
    simp only [Reps] at h
    obtain ⟨x, xs', F1, F2, rfl, h1, h2, -⟩ := h
    cases c <;> simp only [Eng.toVs, reduceCtorEq, Option.map_eq_some_iff] at e
    · obtain ⟨zs, e1, rfl⟩ := e
      simp only [Rep] at h1
      rw [h1.1, Reps.toVs h2 e1]
    · obtain ⟨zs, e1, rfl⟩ := e
      simp only [Rep] at h1
      rw [h1, Reps.toVs h2 e1]
theorem Rep.toV {av : AV} {F : Foot} {v u : Value} (h : Rep w Sh K av F v) (e : toV av = some u) : v = u := by
  cases av <;> simp only [Eng.toV, reduceCtorEq, Option.some.injEq, Option.map_eq_some_iff] at e
  · subst e; simp only [Rep] at h; exact h.1
  · subst e; simp only [Rep] at h; exact h
  · obtain ⟨l, e1, rfl⟩ := e
    simp only [Rep] at h
    obtain ⟨xs, rfl, -, hr⟩ := h
    have := hr.toVs e1
    rw [← this]
theorem gives_pure (I : Inv w Sh Fs V σ) (hA : VA a V) {c : Value} (h : ∀ (ρ : Operand → Value) (w : World), (∀ x v, toV (ov σ x) = some v → ρ x = v) → (execOp ρ o).run P w = .ok (.value c) w) : Gives P w Sh V σ (execOp a.eval o) (cAV c) :=
  Gives.same (h a.eval w (fun x v hv => (I.ov hA x).toV hv)) (Rep.cAV c)

theorem heap_new (w : World) (o : Obj) : (w.alloc o).heap[w.heap.size]? = some o := by
  show (w.heap.push o)[w.heap.size]? = some o
  simp
theorem size_alloc (w : World) (o : Obj) : (w.alloc o).heap.size = w.heap.size + 1 := by
  show (w.heap.push o).size = _
  simp
/-- A new variable. -/
theorem rep_var {e : TypeId} {xs : List Value} {cs : List AV} {G : Foot} (h1 : ∀ u ∈ xs, u.oneCell' = true) (hr : Reps w Sh KF cs G xs) (hG : ∀ b o, G b o → b < w.heap.size) (hsb : ∀ b o, Sh b o → b < w.heap.size) :
    Rep (w.alloc (.cells xs.toArray e)) Sh K (.op cs) (Or (fun b _ => b = w.heap.size) G) (.pointer (some ⟨w.heap.size, 0, none⟩)) := by
  simp only [Rep]
  refine ⟨_, xs, G, rfl, fun j u hj => ⟨?_, ?_, .inl rfl, fun g => ?_⟩, h1, Le.right _ _, Reps.frame (Keeps.alloc w _) (Disj.no _) (Le.refl _) cs (fun _ _ h => h) (Disj.no' _) (Le.refl _) hr⟩
  · refine cell?_of (arr := xs.toArray) (t := e) (fr := (0, 0)) (by rw [add_block]; exact heap_new _ _) (by unfold Addr.add; split <;> rfl) ?_
    rw [add_off]; simpa using hj
  · unfold World.frozen?
    rw [add_block]
    simp only [heap_new]
    simp
  · exact absurd (hG _ _ g) (Nat.lt_irrefl _)
theorem gives_alloc (I : Inv w Sh Fs V σ) (hA : VA a V) {e : TypeId} {z : Value} (ho : o.op = .alloc e) (hz : zeroT P e = some z) (h1 : z.cells.toList.all (·.oneCell') = true) : Gives P w Sh V σ (execOp a.eval o) (.op (z.cells.toList.map c1)) := by
  refine ⟨.pointer (some ⟨w.heap.size, 0, none⟩), w.alloc (.cells z.cells e), Or (fun b _ => b = w.heap.size) noF, ?_, Keeps.alloc w _, ?_, ?_⟩
  · simp [execOp, ho, Instr.alloc, run_zeroValue hz, newVar, newRow]
  · have := rep_var (w := w) (Sh := Sh) (K := KS w V σ) (e := e) (xs := z.cells.toList) (cs := z.cells.toList.map c1) (G := noF) (fun u hu => List.all_eq_true.1 h1 u hu) (Reps.c1 _) (fun _ _ f => f.elim) I.sbd
    simpa using this
  · intro b o f
    rcases f with f | f
    · subst f; exact ⟨Nat.le_refl _, by rw [size_alloc]; omega⟩
    · exact f.elim
/-- A new row. -/
theorem rep_row {e sz n cap : Nat} {xs ys : List Value} {cs : List AV} {G : Foot} (hn : xs.length = n * sz) (hc : (xs ++ ys).length = cap * sz) (hnc : n ≤ cap) (hcm : cap ≤ maxLen) (hz : 0 < sz) (h1 : ∀ u ∈ xs, u.oneCell' = true) (hr : Reps w Sh KF cs G xs) (hG : ∀ b o, G b o → b < w.heap.size) :
    Rep (w.alloc (.cells (xs ++ ys).toArray e)) Sh K (.ow e sz n cs) (Or (fun b _ => b = w.heap.size) G) (.slice (some ⟨w.heap.size, 0, none⟩) n cap) := by
  simp only [Rep]
  refine ⟨xs, G, ⟨hn, .inr ⟨w.heap.size, cap, _, rfl, Nat.zero_le _, heap_new _ _, hnc, hcm, by simpa using hc, ?_⟩⟩, hz, fun g hg => ?_, h1, Le.right _ _, Reps.frame (Keeps.alloc w _) (Disj.no _) (Le.refl _) cs (fun _ _ h => h) (Disj.no' _) (Le.refl _) hr⟩
  · simp [← hn]
  · simp only [Value.ownBlock, Option.some.injEq] at hg
    subst hg
    exact ⟨fun o => .inl rfl, fun o f => absurd (hG _ _ f) (Nat.lt_irrefl _)⟩
theorem gives_makeSlice (I : Inv w Sh Fs V σ) (hA : VA a V) {t e sz by_ : Nat} {l c : Operand} {k k' : IntKind} {n : Nat} {z : Value} (ho : o.op = .makeSlice t l c) (ht : P.underlying t = some (.slice e)) (hs : szT P e = some sz) (hb : bytesT P e = some by_) (hz : zeroT P e = some z) (hzs : z.cells.size = sz) (h0 : 0 < sz)
    (hl : a.eval l = .int k n) (hc : a.eval c = .int k' n) (h63 : n ≤ maxLen) (hby : n * by_ ≤ 140737488355328) (h1 : z.cells.toList.all (·.oneCell') = true) :
    Gives P w Sh V σ (execOp a.eval o) (.ow e sz n ((madeCells z.cells (n * sz)).toList.map c1)) := by
  unfold bytesT at hb
  unfold szT at hs
  unfold zeroT at hz
  rw [Option.map_eq_some_iff] at hb hs
  rw [Option.bind_eq_some_iff] at hz
  obtain ⟨inf, hinf, hb⟩ := hb
  obtain ⟨inf', hinf', hs⟩ := hs
  obtain ⟨inf'', hinf'', hz⟩ := hz
  rw [hinf] at hinf' hinf''
  cases hinf'; cases hinf''
  have hone : ∀ u ∈ (madeCells z.cells (n * sz)).toList, u.oneCell' = true := by
    intro u hu
    simp only [madeCells, Array.toList_map, List.mem_map] at hu
    obtain ⟨i, -, rfl⟩ := hu
    have hlt : i % z.cells.size < z.cells.size := Nat.mod_lt _ (by omega)
    rw [getElem!_pos z.cells (i % z.cells.size) hlt]
    exact List.all_eq_true.1 h1 _ (Array.mem_toList_iff.2 (Array.getElem_mem _))
  have hr := run_make (P := P) w t e inf z ht hinf hz k k' (n : Int) (n : Int) (by omega) (Int.le_refl _) (by
    rw [hb, Int.mul_comm, ← Int.natCast_mul]
    omega) (by simp only [maxLen] at h63; omega)
  rw [hs, Int.toNat_natCast] at hr
  refine ⟨.slice (some ⟨w.heap.size, 0, none⟩) n n, w.alloc (.cells (madeCells z.cells (n * sz)) e), Or (fun b _ => b = w.heap.size) noF, ?_, Keeps.alloc w _, ?_, ?_⟩
  · unfold execOp
    rw [ho]
    show (do let v ← Instr.makeSlice t (a.eval l) (a.eval c); pure (Next.value v) : Sem Next).run P w = _
    rw [hl, hc, Sem.run_bind, hr]
    rfl
  · have := rep_row (w := w) (Sh := Sh) (K := KS w V σ) (e := e) (sz := sz) (n := n) (cap := n) (xs := (madeCells z.cells (n * sz)).toList) (ys := []) (cs := (madeCells z.cells (n * sz)).toList.map c1) (G := noF) (by simp [size_madeCells]) (by simp [size_madeCells]) (Nat.le_refl _) h63 h0 hone (Reps.c1 _) (fun _ _ f => f.elim)
    simpa using this
  · intro b o f
    rcases f with f | f
    · subst f; exact ⟨Nat.le_refl _, by rw [size_alloc]; omega⟩
    · exact f.elim

/-! Structs, and several results. -/
theorem gives_extract (I : Inv w Sh Fs V σ) (hA : VA a V) {x : Operand} {i : Nat} {cs : List AV} {c : AV} (ho : o.op = .extract x i) (hx : ov σ x = .tu cs) (hc : cs[i]? = some c) : Gives P w Sh V σ (execOp a.eval o) c := by
  have hr := I.ov hA x
  rw [hx] at hr
  simp only [Rep] at hr
  obtain ⟨xs, e1, hrs⟩ := hr
  obtain ⟨y, Fj, g1, g2, g3⟩ := hrs.get hc
  refine Gives.same (v := y) ?_ (Rep.wider (Le.refl _) (fun _ _ h => h) g3 g2)
  have g1' : xs[i]? = some y := by simpa using g1
  simp [execOp, ho, Instr.extract, e1, g1']
theorem gives_field1 (I : Inv w Sh Fs V σ) (hA : VA a V) {t : TypeId} {x : Operand} {i : Nat} {cs : List AV} {c : AV} {fs : Array Field} {fd : Field} (ho : o.op = .field t x i) (ht : P.underlying t = some (.struct fs)) (hf : fs[i]? = some fd) (hg : aggT P fd.type = some false)
    (hx : ov σ x = .ag cs) (hc : cs[fd.offset]? = some c) : Gives P w Sh V σ (execOp a.eval o) c := by
  have hr := I.ov hA x
  rw [hx] at hr
  simp only [Rep] at hr
  obtain ⟨xs, e1, -, hrs⟩ := hr
  obtain ⟨y, Fj, g1, g2, g3⟩ := hrs.get hc
  refine Gives.same (v := y) ?_ (Rep.wider (Le.refl _) (fun _ _ h => h) g3 g2)
  have g1' : xs[fd.offset]? = some y := by simpa using g1
  simp only [execOp, ho, Instr.field, Sem.run_bind, run_underlying ht, Result.andThen_ok, hf, e1, asAgg, Sem.run_pure, part, run_isAgg hg, Bool.false_eq_true, if_false, g1']
theorem gives_fieldA (I : Inv w Sh Fs V σ) (hA : VA a V) {t : TypeId} {x : Operand} {i s : Nat} {cs : List AV} {fs : Array Field} {fd : Field} (ho : o.op = .field t x i) (ht : P.underlying t = some (.struct fs)) (hf : fs[i]? = some fd) (hg : aggT P fd.type = some true) (hs : szT P fd.type = some s)
    (hx : ov σ x = .ag cs) : Gives P w Sh V σ (execOp a.eval o) (.ag ((cs.drop fd.offset).take s)) := by
  have hr := I.ov hA x
  rw [hx] at hr
  simp only [Rep] at hr
  obtain ⟨xs, e1, h1, hrs⟩ := hr
  have he : (xs.extract fd.offset (fd.offset + s)).toList = (xs.toList.drop fd.offset).take s := by simp
  refine Gives.same (v := .agg (xs.extract fd.offset (fd.offset + s))) ?_ ?_
  · simp only [execOp, ho, Instr.field, Sem.run_bind, run_underlying ht, Result.andThen_ok, hf, e1, asAgg, Sem.run_pure, part, run_isAgg hg, if_true, run_sizeOf hs]
  · simp only [Rep]
    refine ⟨_, rfl, fun u hu => ?_, ?_⟩
    · rw [he] at hu
      exact h1 u (List.mem_of_mem_drop (List.mem_of_mem_take hu))
    · rw [he]; exact (hrs.drop _).take _
theorem gives_index1 (I : Inv w Sh Fs V σ) (hA : VA a V) {t : TypeId} {x ix : Operand} {len n : Nat} {e : TypeId} {k : IntKind} {i : Int} {cs : List AV} {c : AV} (ho : o.op = .index t x ix) (ht : P.underlying t = some (.array len e)) (hg : aggT P e = some false) (hn : szT P e = some n) (hi : a.eval ix = .int k i) (h0 : 0 ≤ i) (h1 : i < len)
    (hx : ov σ x = .ag cs) (hc : cs[i.toNat * n]? = some c) : Gives P w Sh V σ (execOp a.eval o) c := by
  have hr := I.ov hA x
  rw [hx] at hr
  simp only [Rep] at hr
  obtain ⟨xs, e1, -, hrs⟩ := hr
  obtain ⟨y, Fj, g1, g2, g3⟩ := hrs.get hc
  refine Gives.same (v := y) ?_ (Rep.wider (Le.refl _) (fun _ _ h => h) g3 g2)
  have g1' : xs[i.toNat * n]? = some y := by simpa using g1
  simp only [execOp, ho, Instr.index, hi, asIntOf, Sem.run_bind, run_underlying ht, Result.andThen_ok, e1, Sem.run_pure, part, run_isAgg hg, Bool.false_eq_true, if_false, g1', run_sizeOf hn, Sem.run_ite, if_pos (And.intro h0 h1)]
end
end Go.Eng
