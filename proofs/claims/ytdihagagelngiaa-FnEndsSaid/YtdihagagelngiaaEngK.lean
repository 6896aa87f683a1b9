/- The engine, part K: what the relation means, and that the operations bear it out. -/
import Derived.Test.YtdihagagelngiaaEngJ
namespace Go.Eng
open Go
set_option linter.unusedVariables false
set_option linter.unusedSimpArgs false

structure Ctx (N : Nat) (V : Nat → Value) (a : Act) : Prop where
  va : VA a V
  size : a.tmps.size = N
  le : N ≤ HB
def Bd (w : World) (F : Foot) : Prop := ∀ b o, F b o → b < w.heap.size
def dok (N : Nat) (o : Oper) : Bool := match o.dst with | some d => decide (d < N) | none => true
/-- What may follow an operation, or code. -/
def Nxt (N : Nat) (w : World) (Sh : Foot) (Fs : Nat → Foot) (V : Nat → Value) (a : Act) (σ' : Nat → AV) (K : Act → World → Prop) : Prop :=
  ∀ a' w' Sh' Fs' V', Inv w' Sh' Fs' V' σ' → Ctx N V' a' → a'.defers = a.defers → (∀ t, HB ≤ t → V' t = V t) → Ext w Sh (T Fs) w' Sh' (T Fs') → K a' w'
def SQe (P : Program) (o : Oper) (σ : Nat → AV) (av : AV) : Prop :=
  ∀ N w Sh Fs V a, Inv w Sh Fs V σ → Ctx N V a → ∀ (next : Act → World → Prop) (Q : Exit → Act → World → Prop),
    (∀ v w' Sh' Fd, Keeps noF w w' → Le Sh Sh' → (∀ b o, Sh' b o → Sh b o ∨ w.heap.size ≤ b) → Bd w' Sh' → Rep w' Sh' (KS w V σ) av Fd v → (∀ b o, Fd b o → w.heap.size ≤ b ∧ b < w'.heap.size) → Disj Fd Sh' → next (a.put o.dst v) w') → o.wp P a w next Q
def SOp (P : Program) (o : Oper) (σ σ' : Nat → AV) : Prop :=
  ∀ N w Sh Fs V a, Inv w Sh Fs V σ → Ctx N V a → dok N o = true → ∀ (next : Act → World → Prop) (Q : Exit → Act → World → Prop), Nxt N w Sh Fs V a σ' next → o.wp P a w next Q
def SOps (P : Program) (all : Array Oper) (l : List Oper) (σ σ' : Nat → AV) : Prop :=
  ∀ N w Sh Fs V a, Inv w Sh Fs V σ → Ctx N V a → l.all (dok N) = true → ∀ (Q : Exit → Act → World → Prop), Nxt N w Sh Fs V a σ' (Q .normal) → wpList P all Q l a w
/-- A loop that goes on. -/
def LW (P : Program) (c : Code) (Q : Exit → Act → World → Prop) (a : Act) (w : World) : Prop :=
  ∀ (b : Frame) (k : List Item) (cs : List Frame), ∃ e a' w', Q e a' w' ∧ Arrives P (lone (b.at a (.code c :: .inLoop c :: k)) cs w) b k cs e a' w'
def SCode (P : Program) (c : Code) (σ : Nat → AV) (ex : Ex) (σ' : Nat → AV) : Prop :=
  ∀ N w Sh Fs V a, Inv w Sh Fs V σ → Ctx N V a → codeOk N c = true → ∀ (Q : Exit → Act → World → Prop), Nxt N w Sh Fs V a σ' (Q ex.toExit) → c.wp P Q a w ∧ ∀ c', c = .loop c' → LW P c' Q a w
def SFn (P : Program) (f : FuncId) (args : List AV) (res : AV) (fin : List AV) : Prop :=
  (∃ F c, P.funcs[f]? = some F ∧ F.body = some c ∧ (F.name == "runtime.NumGoroutine") = false) ∧
  ∀ w Sh F vs, Reps w Sh KF args F vs → Disj F Sh → Bd w F → Bd w Sh →
    Calls P f vs.toArray w (fun e w' => ∃ v Sh' F', e = .returned v ∧ Reps w' Sh' KF (res :: fin) F' (v :: vs) ∧ Ext w Sh F w' Sh' F' ∧ Disj F' Sh' ∧ Bd w' F' ∧ Bd w' Sh')
/-- A quiet step of a drawn region, by what is not hidden: where it writes, and what. -/
def CQ (P : Program) (all : Array Oper) (τ : Nat → AV) (o : Oper) (W : List Nat) (ρ : Nat → AV) : Prop :=
  (∃ d av, o.dst = some d ∧ goes all τ o = some true ∧ SQe P o τ av ∧ W = [d] ∧ ρ d = av) ∨
  (∃ av, o.dst = none ∧ goes all τ o = some true ∧ SQe P o τ av ∧ W = []) ∨
  (∃ d, o.dst = some d ∧ goes all τ o = some false ∧ W = [d] ∧ ρ d = .tu [])
/-- One that turns something. -/
def CG (P : Program) (all : Array Oper) (T : List Nat) (τ : Nat → AV) (o : Oper) (W : List Nat) (ρ : Nat → AV) : Prop :=
  SOps P all [o] τ ρ ∧ W = o.dst.toList ++ T ∧ ∀ t, W.contains t = false → ρ t = τ t
/-- A step that may stand unordered against others. -/
structure Soft (P : Program) (all : Array Oper) (anc : List (List Nat)) (quiet : List Nat) (gen : List (Nat × List Nat)) (i : Nat) (o : Oper) (σ : Nat → AV) (W : List Nat) (ρ : Nat → AV) : Prop where
  hi : all[i]? = some o
  sub : ∀ t, W.contains t = true → (o.dst.toList ++ (gTn gen i).getD []).contains t = true
  hd : ∀ d, o.dst = some d → σ d = .dead ∧ freeOf σ d ∧ (W.contains d = true → mask (badD d (hides all anc i) (hidesG all anc gen i) (gmix all anc gen i)) (ρ d) = ρ d)
  ht : ∀ t ∈ (gTn gen i).getD [], noRf (σ t) = true ∧ (W.contains t = true → noRf (ρ t) = true)
  hc : (gTn gen i).isSome = true → ∀ t, ((hidesG all anc gen i).contains t = true → mask (badC o.dst.toList (hidesG all anc gen i)) (σ t) = σ t) ∧ ((hidesG all anc gen i).contains t = false → mask (badE (hidesG all anc gen i)) (σ t) = σ t)
  core : (quiet.contains i = true ∧ CQ P all (maskR (hidesG all anc gen i) σ) o W ρ) ∨ (quiet.contains i = false ∧ ∃ T, gTn gen i = some T ∧ CG P all T (maskR (hidesG all anc gen i) σ) o W ρ)
def MS (P : Program) (all : Array Oper) (quiet : List Nat) (gen : List (Nat × List Nat)) (i : Nat) (σ σ1 : Nat → AV) : Prop :=
  ∃ o, all[i]? = some o ∧ quiet.contains i = false ∧ gTn gen i = none ∧ SOps P all [o] σ σ1
def DStep (P : Program) (all : Array Oper) (anc : List (List Nat)) (quiet : List Nat) (gen : List (Nat × List Nat)) (i : Nat) (σ σ1 : Nat → AV) : Prop :=
  (∃ o W ρ, Soft P all anc quiet gen i o σ W ρ ∧ σ1 = over W ρ σ) ∨ MS P all quiet gen i σ σ1
/-- A drawn region, step by step in the text's order. -/
def SDr (P : Program) (all : Array Oper) (anc : List (List Nat)) (quiet : List Nat) (gen : List (Nat × List Nat)) : List Nat → (Nat → AV) → (Nat → AV) → Prop
  | [], σ, σ' => σ' = σ
  | i :: l, σ, σ' => ∃ σ1, DStep P all anc quiet gen i σ σ1 ∧ SDr P all anc quiet gen l σ1 σ'
def Sound (P : Program) : Job → Prop
  | .qe o σ av => SQe P o σ av
  | .op o σ σ' => SOp P o σ σ'
  | .ops all l σ σ' => SOps P all l σ σ'
  | .drawn all anc quiet gen l σ σ' => SDr P all anc quiet gen l σ σ'
  | .code c σ ex σ' => SCode P c σ ex σ'
  | .fn f args res fin => SFn P f args res fin

section
variable {P : Program} {w w' : World} {Sh Sh' : Foot} {Fs : Nat → Foot} {V : Nat → Value} {σ : Nat → AV} {a : Act} {o : Oper} {N : Nat}

theorem Ctx.put (h : Ctx N V a) {d : Nat} (hd : d < N) (v : Value) : Ctx N (upd V d v) (a.put (some d) v) := by
  refine ⟨fun t ht => ?_, by simp [Act.put, h.size], h.le⟩
  by_cases e : t = d
  · subst e
    rw [upd_same]
    have : t < a.tmps.size := by rw [h.size]; exact hd
    simp [Act.put, this]
  · rw [upd_ne _ _ _ e, h.va t ht]
    simp [Act.put, Array.getElem?_setIfInBounds, Ne.symm e]
theorem Ctx.putO (h : Ctx N V a) (hd : dok N o = true) (v : Value) : ∃ V', Ctx N V' (a.put o.dst v) ∧ (∀ t, HB ≤ t → V' t = V t) ∧ V' = (match o.dst with | some d => upd V d v | none => V) := by
  cases h2 : o.dst with
  | none => exact ⟨V, by simpa [Act.put] using h, fun _ _ => rfl, rfl⟩
  | some d =>
    have hlt : d < N := by simpa [dok, h2] using hd
    refine ⟨_, h.put hlt v, fun t ht => ?_, rfl⟩
    exact upd_ne _ _ _ (Nat.ne_of_gt (Nat.lt_of_lt_of_le (Nat.lt_of_lt_of_le hlt h.le) ht))
theorem put_defers (a : Act) (d : Option Nat) (v : Value) : (a.put d v).defers = a.defers := by cases d <;> rfl
theorem Bd.mono {F : Foot} (h : Bd w F) (k : w.heap.size ≤ w'.heap.size) : Bd w' F := fun b o f => Nat.lt_of_lt_of_le (h b o f) k
theorem Inv.tdis (I : Inv w Sh Fs V σ) : Disj (T Fs) Sh := fun b o ⟨r, f⟩ s => I.shd r b o f s
theorem Inv.tbd (I : Inv w Sh Fs V σ) : Bd w (T Fs) := fun b o ⟨r, f⟩ => I.bnd r b o f

/-- A value comes in. F0: what was taken out before. -/
theorem land (I : Inv w Sh Fs V σ) (hC : Ctx N V a) (hd : dok N o = true) {w' : World} {Sh' Fd G F0 : Foot} {av : AV} {v : Value} (k : Keeps G w w') (hG : ∀ t, Disj G (Fs t)) (hSG : Disj Sh G) (hSS : Le Sh Sh') (hnew : ∀ b o, Sh' b o → Sh b o ∨ F0 b o ∨ w.heap.size ≤ b) (hb : Bd w' Sh')
    (hr : Rep w' Sh' (KS w V σ) av Fd v) (hf : ∀ b o, Fd b o → (F0 b o ∨ w.heap.size ≤ b) ∧ b < w'.heap.size) (hds : Disj Fd Sh') (hF0 : ∀ t, Disj F0 (Fs t)) (hGF : ∀ b o, b < w.heap.size → G b o → F0 b o) :
    ∃ Fs' V', Inv w' Sh' Fs' V' (putD σ o.dst av) ∧ Ctx N V' (a.put o.dst v) ∧ (∀ t, HB ≤ t → V' t = V t) ∧ Ext w Sh (Or (T Fs) F0) w' Sh' (T Fs') := by
  have hs' : ∀ t, Disj (Fs t) Sh' := fun t b o f g => by
    rcases hnew b o g with g | g | g
    · exact I.shd t b o f g
    · exact hF0 t b o g f
    · exact absurd (I.bnd t b o f) (by omega)
  have hdf : ∀ t, Disj Fd (Fs t) := fun t b o f g => by
    rcases (hf b o f).1 with h | h
    · exact hF0 t b o h g
    · exact absurd (I.bnd t b o g) (by omega)
  have hkeep : Keeps (Or (T Fs) F0) w w' := by
    refine (Keeps.refl noF w).trans k (Le.no _) (fun b o hb g => .inr (hGF b o hb g))
  obtain ⟨V', c1, c2, c3⟩ := hC.putO (o := o) hd v
  cases h2 : o.dst with
  | none =>
    rw [h2] at c1 c3
    refine ⟨Fs, V', ?_, c1, c2, hkeep, hSS, fun b o f => ?_, fun b o f => .inl (.inl f)⟩
    · rw [c3]
      exact I.frame k hG hSG hSS hs' hb
    · rcases hnew b o f with g | g | g
      · exact .inl g
      · exact .inr (.inl (.inr g))
      · exact .inr (.inr g)
  | some d =>
    rw [h2] at c1 c3
    refine ⟨upd Fs d Fd, V', ?_, c1, c2, hkeep, hSS, fun b o f => ?_, fun b o ⟨t, f⟩ => ?_⟩
    · rw [c3]
      exact I.put k hG hSG hSS hr (fun t _ => hdf t) hds (fun t _ => hs' t) (fun b o f => (hf b o f).2) hb
    · rcases hnew b o f with g | g | g
      · exact .inl g
      · exact .inr (.inl (.inr g))
      · exact .inr (.inr g)
    · by_cases e : t = d
      · subst e; rw [upd_same] at f
        rcases (hf b o f).1 with h | h
        · exact .inl (.inr h)
        · exact .inr h
      · rw [upd_ne _ _ _ e] at f; exact .inl (.inl ⟨t, f⟩)

theorem s_qo {av : AV} (h : QO P σ o.op av) : SQe P o σ av := by
  intro N w Sh Fs V a I hC next Q hn
  obtain ⟨v, w', Fd, hr, hk, hrep, hnew⟩ := h.sound I hC.va rfl
  unfold Oper.wp
  rw [hr]
  refine hn v w' Sh Fd hk (Le.refl _) (fun b o f => .inl f) (fun b o f => Nat.lt_of_lt_of_le (I.sbd b o f) hk.size) hrep hnew (fun b o f s => ?_)
  have := I.sbd b o s
  have := (hnew b o f).1
  omega
theorem s_quiet {av : AV} (h : SQe P o σ av) : SOp P o σ (putD σ o.dst av) := by
  intro N w Sh Fs V a I hC hd next Q hn
  refine h N w Sh Fs V a I hC next Q fun v w' Sh' Fd k hSS hnew hb hr hf hds => ?_
  obtain ⟨Fs', V', i1, i2, i3, i4⟩ := land I hC hd (F0 := noF) k (fun _ => Disj.no' _) (Disj.no _) hSS (fun b o f => (hnew b o f).elim .inl (fun h => .inr (.inr h))) hb hr (fun b o f => ⟨.inr (hf b o f).1, (hf b o f).2⟩) hds (fun _ => Disj.no' _) (fun _ _ _ f => f.elim)
  refine hn _ _ _ _ _ i1 i2 (put_defers _ _ _) i3 ?_
  refine ⟨i4.keeps.mono (Le.or (Le.refl _) (Le.no _)), i4.sh, fun b o f => ?_, fun b o f => ?_⟩
  · rcases i4.new b o f with g | (g | g) | g
    · exact .inl g
    · exact .inr (.inl g)
    · exact g.elim
    · exact .inr (.inr g)
  · rcases i4.own b o f with (g | g) | g
    · exact .inl g
    · exact g.elim
    · exact .inr g

/-- An operation that gives a value, in terms of its run. -/
theorem wp_value {next : Act → World → Prop} {Q : Exit → Act → World → Prop} {v : Value} {w' : World} (h : (execOp a.eval o).run P w = .ok (.value v) w') (k : next (a.put o.dst v) w') : o.wp P a w next Q := by
  unfold Oper.wp
  rw [h]
  exact k
theorem Reps.one {K : Value → AV → Prop} {av : AV} {F : Foot} {v : Value} (h : Rep w Sh K av F v) : Reps w Sh K [av] F [v] := by
  simp only [Reps]; exact ⟨v, [], F, noF, rfl, h, rfl, Disj.no _, Le.refl _, Le.no _⟩
theorem Reps.of_one {K : Value → AV → Prop} {av : AV} {F : Foot} {vs : List Value} (h : Reps w Sh K [av] F vs) : ∃ v, vs = [v] ∧ Rep w Sh K av F v := by
  simp only [Reps] at h
  obtain ⟨x, xs', F1, F2, rfl, h1, rfl, -, l1, -⟩ := h
  exact ⟨x, rfl, Rep.wider (Le.refl _) (fun _ _ h => h) l1 h1⟩
/-- Out of the registers, and into another: the frame of the operations that move what is owned. -/
theorem moved {σ1 : Nat → AV} {av : AV} (I : Inv w Sh Fs V σ) {Fs1 : Nat → Foot} {Ft : Foot} (I1 : Inv w Sh Fs1 V σ1) (hle : ∀ r, Le (Fs1 r) (Fs r)) (hdt : ∀ r, Disj Ft (Fs1 r)) (hft : ∀ b o, Ft b o → ∃ r, Fs r b o) (hC : Ctx N V a) (hd : dok N o = true) {next : Act → World → Prop}
    {w' : World} {Fd G : Foot} {v : Value} (k : Keeps G w w') (hGF : Le G Ft) (hr : Rep w' Sh KF av Fd v) (hf : ∀ b o, Fd b o → (Ft b o ∨ w.heap.size ≤ b) ∧ b < w'.heap.size) (hn : Nxt N w Sh Fs V a (putD σ1 o.dst av) next) : next (a.put o.dst v) w' := by
  have hds : Disj Fd Sh := fun b o f s => by
    rcases (hf b o f).1 with h | h
    · obtain ⟨r, hr⟩ := hft b o h; exact I.shd r b o hr s
    · exact absurd (I.sbd b o s) (by omega)
  have hSG : Disj Sh G := fun b o s g => by obtain ⟨r, hr⟩ := hft b o (hGF b o g); exact I.shd r b o hr s
  obtain ⟨Fs', V', i1, i2, i3, i4⟩ := land I1 hC hd (F0 := Ft) k (fun t => (hdt t).le hGF (Le.refl _)) hSG (Le.refl _) (fun b o f => .inl f) (fun b o f => Nat.lt_of_lt_of_le (I.sbd b o f) k.size) (Rep.wider (Le.refl _) (fun _ _ h => h.elim) (Le.refl _) hr) hf hds hdt (fun b o _ g => hGF b o g)
  refine hn _ _ _ _ _ i1 i2 (put_defers _ _ _) i3 ?_
  have hsub : Le (Or (T Fs1) Ft) (T Fs) := Le.or (fun b o ⟨r, f⟩ => ⟨r, hle r b o f⟩) hft
  refine ⟨i4.keeps.mono hsub, i4.sh, fun b o f => ?_, fun b o f => ?_⟩
  · rcases i4.new b o f with g | g | g
    · exact .inl g
    · exact .inr (.inl (hsub b o g))
    · exact .inr (.inr g)
  · rcases i4.own b o f with g | g
    · exact .inl (hsub b o g)
    · exact .inr g
theorem s_take {σ1 : Nat → AV} {x : Operand} {t : AV} {d : Nat} (ho : o.op = .move x ∨ o.op = .assign x) (hd : o.dst = some d) (h : TakeL σ [ov σ x] [t] σ1) : SOp P o σ (put σ1 d t) := by
  intro N w Sh Fs V a I hC hdk next Q hn
  obtain ⟨Fs1, Ft, I1, hr, hle, hdt, hft, -⟩ := h.sound I (Reps.one (I.ov hC.va x))
  obtain ⟨v, e, hr⟩ := hr.of_one
  cases e
  refine wp_value (v := a.eval x) (w' := w) (by rcases ho with ho | ho <;> simp [execOp, ho]) ?_
  refine moved (σ1 := σ1) (av := t) I I1 hle hdt hft hC hdk (Keeps.refl noF w) (Le.no _) hr (fun b o f => ⟨.inl f, ?_⟩) (by rw [hd]; exact hn)
  obtain ⟨r, g⟩ := hft b o f
  exact I.bnd r b o g
theorem s_box {σ1 : Nat → AV} {e : TypeId} {x : Operand} {t : AV} {cs : List AV} {d : Nat} (ho : o.op = .box e x) (hd : o.dst = some d) (h : TakeL σ [ov σ x] [t] σ1) (hc : acells t = some cs) : SOp P o σ (put σ1 d (.op cs)) := by
  intro N w Sh Fs V a I hC hdk next Q hn
  obtain ⟨Fs1, Ft, I1, hr, hle, hdt, hft, -⟩ := h.sound I (Reps.one (I.ov hC.va x))
  obtain ⟨v, e', hr⟩ := hr.of_one
  cases e'
  obtain ⟨hcs, h1⟩ := hr.acells hc
  have hbt : Bd w Ft := fun b o f => by obtain ⟨r, g⟩ := hft b o f; exact I.bnd r b o g
  have hrep := rep_var (w := w) (Sh := Sh) (K := KF) (e := e) h1 hcs hbt I.sbd
  refine wp_value (v := .pointer (some ⟨w.heap.size, 0, none⟩)) (w' := w.alloc (.cells (a.eval x).cells e)) ?_ ?_
  · simp [execOp, ho, Instr.box, newVar, newRow]
  · refine moved (σ1 := σ1) (av := .op cs) I I1 hle hdt hft hC hdk (Keeps.alloc w _) (Le.no _) (by simpa using hrep) (fun b o f => ?_) (by rw [hd]; exact hn)
    rcases f with f | f
    · subst f; exact ⟨.inr (Nat.le_refl _), by rw [size_alloc]; omega⟩
    · have := hbt b o f
      exact ⟨.inl f, by rw [size_alloc]; omega⟩
end
end Go.Eng
