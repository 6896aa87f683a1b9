/- The engine: the relation is borne out by the code: its soundness. -/
import Derived.Test.YtbhdobjjhkkpkaaEngB1
import Derived.Lib.AppendZeros
import Derived.Lib.AppendZerosOnto
/- The engine, part K: what the relation means, and that the operations bear it out. -/
namespace Go.Eng
open Go
set_option linter.unusedVariables false
set_option linter.unusedSimpArgs false

structure Ctx (N : Nat) (V : Nat → Value) (a : Act) : Prop where
  va : VA a V
  size : a.tmps.size = N
  le : N ≤ HB
def Bd (w : World) (F : Foot) : Prop := ∀ b o, F b o → b < w.heap.size
def dok (N : Nat) (o : Oper) : Bool := match o.dst with | some d => decide (d < N) | none => true
/-- What may follow an operation, or code. -/
def Nxt (N : Nat) (w : World) (Sh : Foot) (Fs : Nat → Foot) (V : Nat → Value) (a : Act) (σ' : Nat → AV) (K : Act → World → Prop) : Prop :=
  ∀ a' w' Sh' Fs' V', Inv w' Sh' Fs' V' σ' → Ctx N V' a' → a'.defers = a.defers → (∀ t, HB ≤ t → V' t = V t) → Ext w Sh (T Fs) w' Sh' (T Fs') → K a' w'
def SQe (P : Program) (o : Oper) (σ : Nat → AV) (av : AV) : Prop :=
  ∀ N w Sh Fs V a, Inv w Sh Fs V σ → Ctx N V a → ∀ (next : Act → World → Prop) (Q : Exit → Act → World → Prop),
    (∀ v w' Sh' Fd, Keeps noF w w' → Le Sh Sh' → (∀ b o, Sh' b o → Sh b o ∨ w.heap.size ≤ b) → Bd w' Sh' → Rep w' Sh' (KS w V σ) av Fd v → (∀ b o, Fd b o → w.heap.size ≤ b ∧ b < w'.heap.size) → Disj Fd Sh' → next (a.put o.dst v) w') → o.wp P a w next Q
def SOp (P : Program) (o : Oper) (σ σ' : Nat → AV) : Prop :=
  ∀ N w Sh Fs V a, Inv w Sh Fs V σ → Ctx N V a → dok N o = true → ∀ (next : Act → World → Prop) (Q : Exit → Act → World → Prop), Nxt N w Sh Fs V a σ' next → o.wp P a w next Q
def SOps (P : Program) (all : Array Oper) (l : List Oper) (σ σ' : Nat → AV) : Prop :=
  ∀ N w Sh Fs V a, Inv w Sh Fs V σ → Ctx N V a → l.all (dok N) = true → ∀ (Q : Exit → Act → World → Prop), Nxt N w Sh Fs V a σ' (Q .normal) → wpList P all Q l a w
/-- A loop that goes on. -/
def LW (P : Program) (c : Code) (Q : Exit → Act → World → Prop) (a : Act) (w : World) : Prop :=
  ∀ (b : Frame) (k : List Item) (cs : List Frame), ∃ e a' w', Q e a' w' ∧ Arrives P (lone (b.at a (.code c :: .inLoop c :: k)) cs w) b k cs e a' w'
def SCode (P : Program) (c : Code) (σ : Nat → AV) (ex : Ex) (σ' : Nat → AV) : Prop :=
  ∀ N w Sh Fs V a, Inv w Sh Fs V σ → Ctx N V a → codeOk N c = true → ∀ (Q : Exit → Act → World → Prop), Nxt N w Sh Fs V a σ' (Q ex.toExit) → c.wp P Q a w ∧ ∀ c', c = .loop c' → LW P c' Q a w
def SFn (P : Program) (f : FuncId) (args : List AV) (res : AV) (fin : List AV) : Prop :=
  (∃ F c, P.funcs[f]? = some F ∧ F.body = some c ∧ (F.name == "runtime.NumGoroutine") = false) ∧
  ∀ w Sh F vs, Reps w Sh KF args F vs → Disj F Sh → Bd w F → Bd w Sh →
    Calls P f vs.toArray w (fun e w' => ∃ v Sh' F', e = .returned v ∧ Reps w' Sh' KF (res :: fin) F' (v :: vs) ∧ Ext w Sh F w' Sh' F' ∧ Disj F' Sh' ∧ Bd w' F' ∧ Bd w' Sh')
/-- A quiet step of a drawn region, by what is not hidden: where it writes, and what. -/
def CQ (P : Program) (all : Array Oper) (τ : Nat → AV) (o : Oper) (W : List Nat) (ρ : Nat → AV) : Prop :=
  (∃ d av, o.dst = some d ∧ goes all τ o = some true ∧ SQe P o τ av ∧ W = [d] ∧ ρ d = av) ∨
  (∃ av, o.dst = none ∧ goes all τ o = some true ∧ SQe P o τ av ∧ W = []) ∨
  (∃ d, o.dst = some d ∧ goes all τ o = some false ∧ W = [d] ∧ ρ d = .tu [])
/-- One that turns something. -/
def CG (P : Program) (all : Array Oper) (T : List Nat) (τ : Nat → AV) (o : Oper) (W : List Nat) (ρ : Nat → AV) : Prop :=
  SOps P all [o] τ ρ ∧ W = o.dst.toList ++ T ∧ ∀ t, W.contains t = false → ρ t = τ t
/-- A step that may stand unordered against others. -/
structure Soft (P : Program) (all : Array Oper) (anc : List (List Nat)) (quiet : List Nat) (gen : List (Nat × List Nat)) (i : Nat) (o : Oper) (σ : Nat → AV) (W : List Nat) (ρ : Nat → AV) : Prop where
  hi : all[i]? = some o
  sub : ∀ t, W.contains t = true → (o.dst.toList ++ (gTn gen i).getD []).contains t = true
  hd : ∀ d, o.dst = some d → σ d = .dead ∧ freeOf σ d ∧ (W.contains d = true → mask (badD d (hides all anc i) (hidesG all anc gen i) (gmix all anc gen i) ((gTn gen i).getD [])) (ρ d) = ρ d)
  ht : ∀ t ∈ (gTn gen i).getD [], noRf (σ t) = true ∧ (W.contains t = true → noRf (ρ t) = true)
  hc : (gTn gen i).isSome = true → ∀ t, ((hidesG all anc gen i).contains t = true → mask (badC o.dst.toList (hidesG all anc gen i)) (σ t) = σ t) ∧ ((hidesG all anc gen i).contains t = false → mask (badE (hidesG all anc gen i)) (σ t) = σ t)
  core : (quiet.contains i = true ∧ CQ P all (maskR (hidesG all anc gen i) σ) o W ρ) ∨ (quiet.contains i = false ∧ ∃ T, gTn gen i = some T ∧ CG P all T (maskR (hidesG all anc gen i) σ) o W ρ)
def MS (P : Program) (all : Array Oper) (quiet : List Nat) (gen : List (Nat × List Nat)) (i : Nat) (σ σ1 : Nat → AV) : Prop :=
  ∃ o, all[i]? = some o ∧ quiet.contains i = false ∧ gTn gen i = none ∧ SOps P all [o] σ σ1
def DStep (P : Program) (all : Array Oper) (anc : List (List Nat)) (quiet : List Nat) (gen : List (Nat × List Nat)) (i : Nat) (σ σ1 : Nat → AV) : Prop :=
  (∃ o W ρ, Soft P all anc quiet gen i o σ W ρ ∧ σ1 = over W ρ σ) ∨ MS P all quiet gen i σ σ1
/-- A drawn region, step by step in the text's order. -/
def SDr (P : Program) (all : Array Oper) (anc : List (List Nat)) (quiet : List Nat) (gen : List (Nat × List Nat)) : List Nat → (Nat → AV) → (Nat → AV) → Prop
  | [], σ, σ' => σ' = σ
  | i :: l, σ, σ' => ∃ σ1, DStep P all anc quiet gen i σ σ1 ∧ SDr P all anc quiet gen l σ1 σ'
def Sound (P : Program) : Job → Prop
  | .qe o σ av => SQe P o σ av
  | .op o σ σ' => SOp P o σ σ'
  | .ops all l σ σ' => SOps P all l σ σ'
  | .drawn all anc quiet gen l σ σ' => SDr P all anc quiet gen l σ σ'
  | .code c σ ex σ' => SCode P c σ ex σ'
  | .fn f args res fin => SFn P f args res fin

section
variable {P : Program} {w w' : World} {Sh Sh' : Foot} {Fs : Nat → Foot} {V : Nat → Value} {σ : Nat → AV} {a : Act} {o : Oper} {N : Nat}

theorem Ctx.put (h : Ctx N V a) {d : Nat} (hd : d < N) (v : Value) : Ctx N (upd V d v) (a.put (some d) v) := by
  refine ⟨fun t ht => ?_, by simp [Act.put, h.size], h.le⟩
  by_cases e : t = d
  · subst e
    rw [upd_same]
    have : t < a.tmps.size := by rw [h.size]; exact hd
    simp [Act.put, this]
  · rw [upd_ne _ _ _ e, h.va t ht]
    simp [Act.put, Array.getElem?_setIfInBounds, Ne.symm e]
theorem Ctx.putO (h : Ctx N V a) (hd : dok N o = true) (v : Value) : ∃ V', Ctx N V' (a.put o.dst v) ∧ (∀ t, HB ≤ t → V' t = V t) ∧ V' = (match o.dst with | some d => upd V d v | none => V) := by
  cases h2 : o.dst with
  | none => exact ⟨V, by simpa [Act.put] using h, fun _ _ => rfl, rfl⟩
  | some d =>
    have hlt : d < N := by simpa [dok, h2] using hd
    refine ⟨_, h.put hlt v, fun t ht => ?_, rfl⟩
    exact upd_ne _ _ _ (Nat.ne_of_gt (Nat.lt_of_lt_of_le (Nat.lt_of_lt_of_le hlt h.le) ht))
theorem put_defers (a : Act) (d : Option Nat) (v : Value) : (a.put d v).defers = a.defers := by cases d <;> rfl
theorem Bd.mono {F : Foot} (h : Bd w F) (k : w.heap.size ≤ w'.heap.size) : Bd w' F := fun b o f => Nat.lt_of_lt_of_le (h b o f) k
theorem Inv.tdis (I : Inv w Sh Fs V σ) : Disj (T Fs) Sh := fun b o ⟨r, f⟩ s => I.shd r b o f s
theorem Inv.tbd (I : Inv w Sh Fs V σ) : Bd w (T Fs) := fun b o ⟨r, f⟩ => I.bnd r b o f

/-- A value comes in. F0: what was taken out before. -/
theorem land (I : Inv w Sh Fs V σ) (hC : Ctx N V a) (hd : dok N o = true) {w' : World} {Sh' Fd G F0 : Foot} {av : AV} {v : Value} (k : Keeps G w w') (hG : ∀ t, Disj G (Fs t)) (hSG : Disj Sh G) (hSS : Le Sh Sh') (hnew : ∀ b o, Sh' b o → Sh b o ∨ F0 b o ∨ w.heap.size ≤ b) (hb : Bd w' Sh')
    (hr : Rep w' Sh' (KS w V σ) av Fd v) (hf : ∀ b o, Fd b o → (F0 b o ∨ w.heap.size ≤ b) ∧ b < w'.heap.size) (hds : Disj Fd Sh') (hF0 : ∀ t, Disj F0 (Fs t)) (hGF : ∀ b o, b < w.heap.size → G b o → F0 b o) :
    ∃ Fs' V', Inv w' Sh' Fs' V' (putD σ o.dst av) ∧ Ctx N V' (a.put o.dst v) ∧ (∀ t, HB ≤ t → V' t = V t) ∧ Ext w Sh (Or (T Fs) F0) w' Sh' (T Fs') := by
  have hs' : ∀ t, Disj (Fs t) Sh' := fun t b o f g => by
    rcases hnew b o g with g | g | g
    · exact I.shd t b o f g
    · exact hF0 t b o g f
    · exact absurd (I.bnd t b o f) (by omega)
  have hdf : ∀ t, Disj Fd (Fs t) := fun t b o f g => by
    rcases (hf b o f).1 with h | h
    · exact hF0 t b o h g
    · exact absurd (I.bnd t b o g) (by omega)
  have hkeep : Keeps (Or (T Fs) F0) w w' := by
    refine (Keeps.refl noF w).trans k (Le.no _) (fun b o hb g => .inr (hGF b o hb g))
  obtain ⟨V', c1, c2, c3⟩ := hC.putO (o := o) hd v
  cases h2 : o.dst with
  | none =>
    rw [h2] at c1 c3
    refine ⟨Fs, V', ?_, c1, c2, hkeep, hSS, fun b o f => ?_, fun b o f => .inl (.inl f)⟩
    · rw [c3]
      exact I.frame k hG hSG hSS hs' hb
    · rcases hnew b o f with g | g | g
      · exact .inl g
      · exact .inr (.inl (.inr g))
      · exact .inr (.inr g)
  | some d =>
    rw [h2] at c1 c3
    refine ⟨upd Fs d Fd, V', ?_, c1, c2, hkeep, hSS, fun b o f => ?_, fun b o ⟨t, f⟩ => ?_⟩
    · rw [c3]
      exact I.put k hG hSG hSS hr (fun t _ => hdf t) hds (fun t _ => hs' t) (fun b o f => (hf b o f).2) hb
    · rcases hnew b o f with g | g | g
      · exact .inl g
      · exact .inr (.inl (.inr g))
      · exact .inr (.inr g)
    · by_cases e : t = d
      · subst e; rw [upd_same] at f
        rcases (hf b o f).1 with h | h
        · exact .inl (.inr h)
        · exact .inr h
      · rw [upd_ne _ _ _ e] at f; exact .inl (.inl ⟨t, f⟩)

theorem s_qo {av : AV} (h : QO P σ o.op av) : SQe P o σ av := by
  intro N w Sh Fs V a I hC next Q hn
  obtain ⟨v, w', Fd, hr, hk, hrep, hnew⟩ := h.sound I hC.va rfl
  unfold Oper.wp
  rw [hr]
  refine hn v w' Sh Fd hk (Le.refl _) (fun b o f => .inl f) (fun b o f => Nat.lt_of_lt_of_le (I.sbd b o f) hk.size) hrep hnew (fun b o f s => ?_)
  have := I.sbd b o s
  have := (hnew b o f).1
  omega
theorem s_quiet {av : AV} (h : SQe P o σ av) : SOp P o σ (putD σ o.dst av) := by
  intro N w Sh Fs V a I hC hd next Q hn
  refine h N w Sh Fs V a I hC next Q fun v w' Sh' Fd k hSS hnew hb hr hf hds => ?_
  obtain ⟨Fs', V', i1, i2, i3, i4⟩ := land I hC hd (F0 := noF) k (fun _ => Disj.no' _) (Disj.no _) hSS (fun b o f => (hnew b o f).elim .inl (fun h => .inr (.inr h))) hb hr (fun b o f => ⟨.inr (hf b o f).1, (hf b o f).2⟩) hds (fun _ => Disj.no' _) (fun _ _ _ f => f.elim)
  refine hn _ _ _ _ _ i1 i2 (put_defers _ _ _) i3 ?_
  refine ⟨i4.keeps.mono (Le.or (Le.refl _) (Le.no _)), i4.sh, fun b o f => ?_, fun b o f => ?_⟩
  · rcases i4.new b o f with g | (g | g) | g
    · exact .inl g
    · exact .inr (.inl g)
    · exact g.elim
    · exact .inr (.inr g)
  · rcases i4.own b o f with (g | g) | g
    · exact .inl g
    · exact g.elim
    · exact .inr g

/-- An operation that gives a value, in terms of its run. -/
theorem wp_value {next : Act → World → Prop} {Q : Exit → Act → World → Prop} {v : Value} {w' : World} (h : (execOp a.eval o).run P w = .ok (.value v) w') (k : next (a.put o.dst v) w') : o.wp P a w next Q := by
  unfold Oper.wp
  rw [h]
  exact k
theorem Reps.one {K : Value → AV → Prop} {av : AV} {F : Foot} {v : Value} (h : Rep w Sh K av F v) : Reps w Sh K [av] F [v] := by
  simp only [Reps]; exact ⟨v, [], F, noF, rfl, h, rfl, Disj.no _, Le.refl _, Le.no _⟩
theorem Reps.of_one {K : Value → AV → Prop} {av : AV} {F : Foot} {vs : List Value} (h : Reps w Sh K [av] F vs) : ∃ v, vs = [v] ∧ Rep w Sh K av F v := by
  simp only [Reps] at h
  obtain ⟨x, xs', F1, F2, rfl, h1, rfl, -, l1, -⟩ := h
  exact ⟨x, rfl, Rep.wider (Le.refl _) (fun _ _ h => h) l1 h1⟩
/-- Out of the registers, and into another: the frame of the operations that move what is owned. -/
theorem moved {σ1 : Nat → AV} {av : AV} (I : Inv w Sh Fs V σ) {Fs1 : Nat → Foot} {Ft : Foot} (I1 : Inv w Sh Fs1 V σ1) (hle : ∀ r, Le (Fs1 r) (Fs r)) (hdt : ∀ r, Disj Ft (Fs1 r)) (hft : ∀ b o, Ft b o → ∃ r, Fs r b o) (hC : Ctx N V a) (hd : dok N o = true) {next : Act → World → Prop}
    {w' : World} {Fd G : Foot} {v : Value} (k : Keeps G w w') (hGF : Le G Ft) (hr : Rep w' Sh KF av Fd v) (hf : ∀ b o, Fd b o → (Ft b o ∨ w.heap.size ≤ b) ∧ b < w'.heap.size) (hn : Nxt N w Sh Fs V a (putD σ1 o.dst av) next) : next (a.put o.dst v) w' := by
  have hds : Disj Fd Sh := fun b o f s => by
    rcases (hf b o f).1 with h | h
    · obtain ⟨r, hr⟩ := hft b o h; exact I.shd r b o hr s
    · exact absurd (I.sbd b o s) (by omega)
  have hSG : Disj Sh G := fun b o s g => by obtain ⟨r, hr⟩ := hft b o (hGF b o g); exact I.shd r b o hr s
  obtain ⟨Fs', V', i1, i2, i3, i4⟩ := land I1 hC hd (F0 := Ft) k (fun t => (hdt t).le hGF (Le.refl _)) hSG (Le.refl _) (fun b o f => .inl f) (fun b o f => Nat.lt_of_lt_of_le (I.sbd b o f) k.size) (Rep.wider (Le.refl _) (fun _ _ h => h.elim) (Le.refl _) hr) hf hds hdt (fun b o _ g => hGF b o g)
  refine hn _ _ _ _ _ i1 i2 (put_defers _ _ _) i3 ?_
  have hsub : Le (Or (T Fs1) Ft) (T Fs) := Le.or (fun b o ⟨r, f⟩ => ⟨r, hle r b o f⟩) hft
  refine ⟨i4.keeps.mono hsub, i4.sh, fun b o f => ?_, fun b o f => ?_⟩
  · rcases i4.new b o f with g | g | g
    · exact .inl g
    · exact .inr (.inl (hsub b o g))
    · exact .inr (.inr g)
  · rcases i4.own b o f with g | g
    · exact .inl (hsub b o g)
    · exact .inr g
theorem s_take {σ1 : Nat → AV} {x : Operand} {t : AV} {d : Nat} (ho : o.op = .move x ∨ o.op = .assign x) (hd : o.dst = some d) (h : TakeL σ [ov σ x] [t] σ1) : SOp P o σ (put σ1 d t) := by
  intro N w Sh Fs V a I hC hdk next Q hn
  obtain ⟨Fs1, Ft, I1, hr, hle, hdt, hft, -⟩ := h.sound I (Reps.one (I.ov hC.va x))
  obtain ⟨v, e, hr⟩ := hr.of_one
  cases e
  refine wp_value (v := a.eval x) (w' := w) (by rcases ho with ho | ho <;> simp [execOp, ho]) ?_
  refine moved (σ1 := σ1) (av := t) I I1 hle hdt hft hC hdk (Keeps.refl noF w) (Le.no _) hr (fun b o f => ⟨.inl f, ?_⟩) (by rw [hd]; exact hn)
  obtain ⟨r, g⟩ := hft b o f
  exact I.bnd r b o g
theorem s_box {σ1 : Nat → AV} {e : TypeId} {x : Operand} {t : AV} {cs : List AV} {d : Nat} (ho : o.op = .box e x) (hd : o.dst = some d) (h : TakeL σ [ov σ x] [t] σ1) (hc : acells t = some cs) : SOp P o σ (put σ1 d (.op cs)) := by
  intro N w Sh Fs V a I hC hdk next Q hn
  obtain ⟨Fs1, Ft, I1, hr, hle, hdt, hft, -⟩ := h.sound I (Reps.one (I.ov hC.va x))
  obtain ⟨v, e', hr⟩ := hr.of_one
  cases e'
  obtain ⟨hcs, h1⟩ := hr.acells hc
  have hbt : Bd w Ft := fun b o f => by obtain ⟨r, g⟩ := hft b o f; exact I.bnd r b o g
  have hrep := rep_var (w := w) (Sh := Sh) (K := KF) (e := e) h1 hcs hbt I.sbd
  refine wp_value (v := .pointer (some ⟨w.heap.size, 0, none⟩)) (w' := w.alloc (.cells (a.eval x).cells e)) ?_ ?_
  · simp [execOp, ho, Instr.box, newVar, newRow]
  · refine moved (σ1 := σ1) (av := .op cs) I I1 hle hdt hft hC hdk (Keeps.alloc w _) (Le.no _) (by simpa using hrep) (fun b o f => ?_) (by rw [hd]; exact hn)
    rcases f with f | f
    · subst f; exact ⟨.inr (Nat.le_refl _), by rw [size_alloc]; omega⟩
    · have := hbt b o f
      exact ⟨.inl f, by rw [size_alloc]; omega⟩
/-- A register is told anew. -/
theorem Inv.anew (I : Inv w Sh Fs V σ) {r : Nat} {c : AV} (hat : ∀ q h x, At w (V r) c q h x → ∃ x', At w (V r) (σ r) q h x') (hr : Rep w Sh (KS w V (upd σ r c)) c (Fs r) (V r)) : Inv w Sh Fs V (upd σ r c) := by
  have hat' : ∀ t q h x, At w (V t) (upd σ r c t) q h x → ∃ x', At w (V t) (σ t) q h x' := by
    intro t q h x hx
    by_cases e : t = r
    · subst e; rw [upd_same] at hx; exact hat q h x hx
    · rw [upd_ne _ _ _ e] at hx; exact ⟨x, hx⟩
  have hK : ∀ v a, KS w V σ v a → KS w V (upd σ r c) v a := by
    intro v a hk
    cases a <;> simp only [KS] at hk ⊢
    · intro h x hx; obtain ⟨x', hx'⟩ := hat' _ _ h x hx; exact hk h x' hx'
    · intro h x hx; obtain ⟨x', hx'⟩ := hat' _ _ h x hx; exact hk h x' hx'
  refine ⟨fun t => ?_, I.dis, I.shd, I.bnd, I.sbd⟩
  by_cases e : t = r
  · subst e; rw [upd_same]; exact hr
  · rw [upd_ne _ _ _ e]; exact Rep.wider (Le.refl _) hK (Le.refl _) (I.rep t)
theorem HomeL.reps {r d : Nat} {K' : Value → AV → Prop} {ad : Addr} {V' : Nat → Value} {σ' : Nat → AV} {w' : World} {css : List AV} (k : Keeps noF w w') (hd : V' d = .pointer (some ad)) (hσd : σ' d = .op css) : ∀ {i : Nat} {as bs hs : List AV} {F : Foot} {ys xs : List Value}, HomeL r d i as bs hs → Reps w Sh (KS w V σ) as noF ys → Reps w Sh K' bs F xs →
    (∀ u ∈ xs, u.oneCell' = true) → (∀ j u b, xs[j]? = some u → bs[j]? = some b → At w (V r) (σ r) [i + j] u b) → (∀ j y, ys[j]? = some y → w'.cell? (ad.add (i + j)) = some y) → Reps w' Sh (KS w' V' σ') hs noF xs := by
  intro i as bs hs F ys xs h
  induction h generalizing F ys xs with
  | nil i =>
    intro _ hb _ _ _
    simpa only [Reps] using hb
  | @vw i n e sz cs as bs hs h ih =>
    intro hA hB h1 hat hc
    simp only [Reps] at hA hB
    obtain ⟨y, ys', F1, F2, rfl, hy, hA, hd1, l1, l2⟩ := hA
    obtain ⟨x, xs', F4, F3, rfl, hx, hB, hd2, l4, l3⟩ := hB
    have ih := ih (Reps.wider (Le.refl _) (fun _ _ h => h) l2 hA) hB (fun u hu => h1 u (List.mem_cons_of_mem _ hu)) (fun j u b hu hb => by
      have := hat (j + 1) u b (by simpa using hu) (by simpa using hb)
      rwa [show i + (j + 1) = i + 1 + j by omega] at this) (fun j y hy => by
      have := hc (j + 1) y (by simpa using hy)
      rwa [show i + (j + 1) = i + 1 + j by omega] at this)
    simp only [Reps]
    refine ⟨x, xs', noF, noF, rfl, ?_, ih, Disj.no _, Le.refl _, Le.refl _⟩
    simp only [Rep] at hx hy ⊢
    obtain ⟨zs, G, ho, hz, -⟩ := hx
    have hcell := hc 0 y (by simp)
    obtain ⟨A, m, cap, e1, e2, -⟩ := hy.1 x _ (hat 0 x (.ow e sz n cs) rfl rfl)
    obtain ⟨e3, e4⟩ := e2 rfl
    have hm : m = n := by
      rcases ho.2 with ⟨e5, e7⟩ | ⟨g, cap', cur, e5, -⟩
      · rw [e1] at e5
        cases e5
        exact e7.symm
      · rw [e1] at e5
        cases e5; rfl
    subst hm
    refine ⟨fun h x' hx' => ?_, h1 x (by simp)⟩
    rw [hd, hσd] at hx'
    cases hx' with
    | op hc' hu hp =>
      have e6 := hp.nil_eq rfl
      rw [Nat.add_zero] at hcell
      rw [hcell] at hu
      cases hu
      subst e6
      rw [e3, e1]
      exact ⟨A, m, cap, rfl, fun _ => ⟨rfl, e4⟩, fun h => absurd rfl h⟩
  | @pl i a b as bs hs hp h ih =>
    intro hA hB h1 hat hc
    simp only [Reps] at hA hB
    obtain ⟨y, ys', F1, F2, rfl, hy, hA, hd1, l1, l2⟩ := hA
    obtain ⟨x, xs', F4, F3, rfl, hx, hB, hd2, l4, l3⟩ := hB
    have ih := ih (Reps.wider (Le.refl _) (fun _ _ h => h) l2 hA) hB (fun u hu => h1 u (List.mem_cons_of_mem _ hu)) (fun j u b hu hb => by
      have := hat (j + 1) u b (by simpa using hu) (by simpa using hb)
      rwa [show i + (j + 1) = i + 1 + j by omega] at this) (fun j y hy => by
      have := hc (j + 1) y (by simpa using hy)
      rwa [show i + (j + 1) = i + 1 + j by omega] at this)
    simp only [Reps]
    refine ⟨x, xs', noF, noF, rfl, ?_, ih, Disj.no _, Le.refl _, Le.refl _⟩
    have : Rep w Sh KF b noF x := by
      cases b <;> simp only [isPl, Bool.false_eq_true] at hp <;> simpa only [Rep] using hx
    exact Rep.frame k (Disj.no _) (Le.refl _) b (fun _ _ h => h.elim) (Disj.no _) (Le.refl _) this
theorem HomeL.leaf {r d : Nat} : ∀ {i : Nat} {as bs hs : List AV}, HomeL r d i as bs hs → hs.length = bs.length ∧ as.length = bs.length ∧ ∀ c ∈ hs, kids c = none := by
  intro i as bs hs h
  induction h with
  | nil i => exact ⟨rfl, rfl, by simp⟩
  | vw h ih =>
    refine ⟨by simp [ih.1], by simp [ih.2.1], fun c hc => ?_⟩
    rcases List.mem_cons.1 hc with rfl | hc
    · rfl
    · exact ih.2.2 c hc
  | pl hp h ih =>
    refine ⟨by simp [ih.1], by simp [ih.2.1], fun c hc => ?_⟩
    rcases List.mem_cons.1 hc with rfl | hc
    · cases c <;> simp only [isPl, Bool.false_eq_true] at hp <;> rfl
    · exact ih.2.2 c hc
theorem s_boxH {σ1 : Nat → AV} {e : TypeId} {t r d : Nat} {as bs bs1 cs hs : List AV} (ho : o.op = .box e (.tmp t)) (hd : o.dst = some d) (hr : HB ≤ r) (ha : ov σ (.tmp t) = .ag as) (hb : σ r = .ag bs) (hh : HomeL r d 0 as bs hs) (h : TakeL σ [.ag as] [.ag cs] σ1) (h1 : σ1 r = .ag bs1) (hl : bs1.length = bs.length) (hc : cs.length = bs.length) : SOp P o σ (upd (put σ1 d (.op cs)) r (.ag hs)) := by
  intro N w Sh Fs V a I hC hdk next Q hn
  have hov := I.ov hC.va (.tmp t)
  rw [ha] at hov
  obtain ⟨Fs1, Ft, I1, hrp, hle, hdt, hft, -⟩ := h.sound I (Reps.one hov)
  obtain ⟨v, e', hrp⟩ := hrp.of_one
  cases e'
  simp only [Rep] at hov
  obtain ⟨ys, ey, -, hys⟩ := hov
  have hxr := I.rep r
  rw [hb] at hxr
  simp only [Rep] at hxr
  obtain ⟨xs, ex, hx1, hxs⟩ := hxr
  obtain ⟨hcs, hc1⟩ := hrp.acells (vs := cs) rfl
  have hbt : Bd w Ft := fun b o f => by obtain ⟨r, g⟩ := hft b o f; exact I.bnd r b o g
  have hrep := rep_var (w := w) (Sh := Sh) (K := KF) (e := e) hc1 hcs hbt I.sbd
  have hcell : (a.eval (.tmp t)).cells = ys := by rw [ey]; rfl
  have hdN : d < N := by simpa [dok, hd] using hdk
  have hrd : r ≠ d := by have := hC.le; omega
  refine wp_value (v := .pointer (some ⟨w.heap.size, 0, none⟩)) (w' := w.alloc (.cells (a.eval (.tmp t)).cells e)) ?_ ?_
  · simp [execOp, ho, Instr.box, newVar, newRow]
  · have kA : Keeps noF w (w.alloc (.cells (a.eval (.tmp t)).cells e)) := Keeps.alloc w _
    have hfd : ∀ b o, (Or (fun b _ => b = w.heap.size) Ft) b o → (Ft b o ∨ w.heap.size ≤ b) ∧ b < (w.alloc (.cells (a.eval (.tmp t)).cells e)).heap.size := fun b o f => by
      rcases f with f | f
      · subst f; exact ⟨.inr (Nat.le_refl _), by rw [size_alloc]; omega⟩
      · have := hbt b o f
        exact ⟨.inl f, by rw [size_alloc]; omega⟩
    have hds : Disj (Or (fun b _ => b = w.heap.size) Ft) Sh := fun b o f s => by
      rcases (hfd b o f).1 with h | h
      · obtain ⟨r, hr⟩ := hft b o h; exact I.shd r b o hr s
      · exact absurd (I.sbd b o s) (by omega)
    obtain ⟨Fs', V', i1, i2, i3, i4⟩ := land (o := o) (av := .op cs) (v := .pointer (some ⟨w.heap.size, 0, none⟩)) I1 hC hdk (F0 := Ft) kA (fun t => Disj.no' _) (Disj.no _) (Le.refl _) (fun b o f => .inl f) (fun b o f => Nat.lt_of_lt_of_le (I.sbd b o f) kA.size) (Rep.wider (K := KF) (Le.refl _) (fun _ _ h => False.elim h) (Le.refl _) (by simpa using hrep)) hfd hds hdt (fun b o _ g => g.elim)
    rw [hd] at i1 i2
    have hVr : V' r = .agg xs := (i3 r hr).trans ex
    have hVd : V' d = .pointer (some ⟨w.heap.size, 0, none⟩) := by
      rw [i2.va d (by have := hC.le; omega)]
      have : d < a.tmps.size := by rw [hC.size]; exact hdN
      simp [Act.put, this]
    obtain ⟨lf1, lf2, lf3⟩ := hh.leaf
    have hbr : putD σ1 (some d) (.op cs) r = .ag (maskL (isR d) bs1) := by
      simp only [putD, put, upd_ne _ _ _ hrd, h1, mask]
    have hσd : upd (putD σ1 (some d) (.op cs)) r (.ag hs) d = .op cs := by
      rw [upd_ne _ _ _ (Ne.symm hrd)]
      simp only [putD, put, upd_same, mask]
    have I2 : Inv (w.alloc (.cells (a.eval (.tmp t)).cells e)) Sh Fs' V' (upd (putD σ1 (some d) (.op cs)) r (.ag hs)) := by
      refine i1.anew (fun q h x hx => ?_) ?_
      · rw [hVr] at hx ⊢
        rw [hbr]
        cases hx with
        | nil => exact ⟨_, .nil _ _⟩
        | @ag _ j _ c u _ _ p hc' hu hp =>
          have hk := lf3 c (List.mem_of_getElem? hc')
          have hj : j < bs1.length := by
            have := (List.getElem?_eq_some_iff.1 hc').1
            omega
          cases hp with
          | nil => exact ⟨_, .ag (c := mask (isR d) bs1[j]) (by rw [maskL_get, List.getElem?_eq_getElem hj]; rfl) hu (.nil _ _)⟩
          | ow => cases hk
          | op => cases hk
          | ag => cases hk
          | tu => cases hk
      · rw [hVr]
        simp only [Rep]
        refine ⟨xs, rfl, hx1, Reps.wider (Le.refl _) (fun _ _ h => h) (Le.no _) (hh.reps (w := w) (V := V) (σ := σ) kA hVd hσd hys hxs hx1 (fun j u b hu hb' => ?_) (fun j y hy => ?_))⟩
        · rw [ex, hb, Nat.zero_add]
          exact .ag hb' hu (.nil _ _)
        · rw [Nat.zero_add, hcell]
          refine cell?_of (arr := ys) (t := e) (fr := (0, 0)) (by rw [add_block]; exact heap_new _ _) (by unfold Addr.add; split <;> rfl) ?_
          rw [add_off]; simpa using hy
    refine hn _ _ _ _ _ (by simpa only [putD] using I2) (by rw [hd]; exact i2) (put_defers _ _ _) i3 ?_
    have hsub : Le (Or (T Fs1) Ft) (T Fs) := Le.or (fun b o ⟨r, f⟩ => ⟨r, hle r b o f⟩) hft
    refine ⟨i4.keeps.mono hsub, i4.sh, fun b o f => ?_, fun b o f => ?_⟩
    · rcases i4.new b o f with g | g | g
      · exact .inl g
      · exact .inr (.inl (hsub b o g))
      · exact .inr (.inr g)
    · rcases i4.own b o f with g | g
      · exact .inl (hsub b o g)
      · exact .inr g
end
end Go.Eng
/- The engine, part L: stores, slice literals and appends bear it out. -/
namespace Go.Eng
open Go
set_option linter.unusedVariables false
set_option linter.unusedSimpArgs false
section
variable {P : Program} {w w' : World} {Sh Sh' : Foot} {Fs : Nat → Foot} {V : Nat → Value} {σ : Nat → AV} {a : Act} {o : Oper} {N : Nat} {K : Value → AV → Prop}

theorem s_store {σ1 σ2 : Nat → AV} {t : TypeId} {x y : Operand} {r i : Nat} {p : List Nat} {tr : AV} {vs : List AV} (ho : o.op = .store t x y) (hx : ov σ x = .ad r p i) (hr : (nodeCells σ1 r p).isSome = true) (h : TakeL σ [ov σ y] [tr] σ1) (hv : acells tr = some vs) (hs : szT P t = some vs.length) (hS : StoreL σ1 r p i vs σ2) : SOp P o σ (putD σ2 o.dst .dead) := by
  intro N w Sh Fs V a I hC hdk next Q hn
  obtain ⟨Fs1, Ft, I1, hrep, hle, hdt, hft, hmono⟩ := h.sound I (Reps.one (I.ov hC.va y))
  obtain ⟨v, e, hrep⟩ := hrep.of_one
  cases e
  obtain ⟨hcs, h1⟩ := hrep.acells hv
  have hxr := I.ov hC.va x
  rw [hx] at hxr
  simp only [Rep] at hxr
  have hks := hmono _ _ hxr.1
  obtain ⟨cs, hcs1⟩ := Option.isSome_iff_exists.1 hr
  obtain ⟨nd, u, e1, e2, hat, -⟩ := I1.node hcs1
  obtain ⟨ad0, e3, e4⟩ := hks _ _ hat
  have hbt : Bd w Ft := fun b o f => by obtain ⟨r, g⟩ := hft b o f; exact I.bnd r b o g
  have hst : Disj Ft Sh := fun b o f s => by obtain ⟨r, g⟩ := hft b o f; exact I.shd r b o g s
  obtain ⟨w2, Fs2, g1, g2, g3, g4, g5⟩ := hS.sound (P := P) (ad := ad0.add i) (k := 0) I1 hcs h1 hdt hst hbt (fun h x hx => by
    obtain ⟨ad1, q1, q2⟩ := hks h x hx
    rw [e3] at q1
    simp only [Value.pointer.injEq, Option.some.injEq] at q1
    exact ⟨ad1, q2, by rw [add_zero', q1]⟩)
  have hsize : (a.eval y).cells.size = vs.length := by have := hcs.length; simp at this; omega
  have hrun : (execOp a.eval o).run P w = .ok .skip w2 := by
    simp only [execOp, ho, Instr.storeAt, Instr.sureAddr, e3, storeVar, Sem.run_bind, Sem.run_pure, Result.andThen_ok, run_sizeOf hs, hsize, ne_eq, not_true_eq_false, if_false, g1]
  obtain ⟨Fs', V', i1, i2, i3, i4⟩ := land (o := o) (av := .dead) (v := undef) (Sh' := Sh) (Fd := noF) g2 hC hdk (F0 := noF) (Keeps.refl noF w2) (fun _ => Disj.no' _) (Disj.no _) (Le.refl _) (fun b o f => .inl f) g2.sbd (by simp only [Rep]) (fun _ _ f => f.elim) (Disj.no' _) (fun _ => Disj.no' _) (fun _ _ _ f => f.elim)
  unfold Oper.wp
  rw [hrun]
  refine hn _ _ _ _ _ i1 i2 (put_defers _ _ _) i3 ?_
  have hsub : Le (Or (T Fs1) Ft) (T Fs) := Le.or (fun b o ⟨r, f⟩ => ⟨r, hle r b o f⟩) hft
  have hE : Ext w Sh (T Fs) w2 Sh (T Fs2) := ⟨g3.mono hsub, Le.refl _, fun b o f => .inl f, fun b o f => .inl (hsub b o (g5 b o f))⟩
  refine hE.trans ⟨i4.keeps.mono (Le.or (Le.refl _) (Le.no _)), i4.sh, fun b o f => ?_, fun b o f => ?_⟩
  · rcases i4.new b o f with g | (g | g) | g
    · exact .inl g
    · exact .inr (.inl g)
    · exact g.elim
    · exact .inr (.inr g)
  · rcases i4.own b o f with (g | g) | g
    · exact .inl g
    · exact g.elim
    · exact .inr g

theorem run_buildSlice0 (w : World) {t e len : Nat} {parts : Array (Nat × Value)} {cells : Array Value} {sz : Nat} {z : Value} (hu : P.underlying t = some (.slice e)) (hs : szT P e = some sz) (hz : zeroT P e = some z) (hl : len * sz ≤ 16777216) (h0 : len * sz = 0)
    (h : Instr.fill (fun i => some (i * sz, sz)) #[] parts.toList = some cells) : (Instr.buildSlice t len parts).run P w = .ok (.slice (some ⟨w.heap.size, 0, none⟩) len len) (w.alloc (.cells cells e)) := by
  have h2 : ¬ (0 > 2 ^ 24) := by omega
  simp only [Instr.buildSlice, Sem.run_bind, run_underlying hu, Result.andThen_ok, run_sizeOf hs, h0, h2, if_false, if_true, Sem.run_pure]
  have e1 : (Array.range 0).map (fun x => (#[] : Array Value)[x % (#[] : Array Value).size]!) = #[] := by simp
  simp only [e1, h, Sem.run_bind, newRow, run_newObj, Result.andThen_ok, Sem.run_pure]
  rfl
theorem s_buildS {σ1 : Nat → AV} {t e sz len : Nat} {parts : Array (Nat × Operand)} {us cs : List AV} {z : Value} {d : Nat} (ho : o.op = .buildSlice t len parts) (hd : o.dst = some d) (ht : P.underlying t = some (.slice e)) (hs : szT P e = some sz) (hz : zeroT P e = some z) (hzs : z.cells.size = sz) (h0 : 0 < sz) (hl : len * sz ≤ 16777216) (h1 : z.cells.toList.all (·.oneCell') = true)
    (h : TakeL σ (parts.toList.map fun x => ov σ x.2) us σ1) (hf : fillA (fun i => some (i * sz, sz)) ((madeCells z.cells (len * sz)).toList.map c1) ((parts.toList.map (·.1)).zip us) = some cs) : SOp P o σ (put σ1 d (.ow e sz len cs)) := by
  intro N w Sh Fs V a I hC hdk next Q hn
  have hvals := I.ovs hC.va parts.toList
  rw [List.map_map, List.map_map] at hvals
  obtain ⟨Fs1, Ft, I1, hrep, hle, hdt, hft, -⟩ := h.sound I hvals
  have hbt : Bd w Ft := fun b o f => by obtain ⟨r, g⟩ := hft b o f; exact I.bnd r b o g
  have hlen : us.length = parts.toList.length := by have := hrep.length; simpa using this
  have hz1 : ((parts.toList.map (·.1)).zip us).map (·.1) = (parts.toList.map fun x => (x.1, a.eval x.2)).map (·.1) := by
    rw [List.map_fst_zip (by simp [hlen])]; simp [List.map_map, Function.comp_def]
  have hz2 : ((parts.toList.map (·.1)).zip us).map (·.2) = us := List.map_snd_zip (by simp [hlen])
  have hone : ∀ u ∈ (madeCells z.cells (len * sz)).toList, u.oneCell' = true := by
    intro u hu
    simp only [madeCells, Array.toList_map, List.mem_map] at hu
    obtain ⟨i, -, rfl⟩ := hu
    have hlt : i % z.cells.size < z.cells.size := Nat.mod_lt _ (by omega)
    rw [getElem!_pos z.cells (i % z.cells.size) hlt]
    exact List.all_eq_true.1 h1 _ (Array.mem_toList_iff.2 (Array.getElem_mem _))
  obtain ⟨xs', f1, f2, f3, f4⟩ := fillA_ok (w := w) (Sh := Sh) (K := KF) ((parts.toList.map (·.1)).zip us) (parts.toList.map fun x => (x.1, a.eval x.2)) (F := noF) (G := Ft) (xs := madeCells z.cells (len * sz)) hz1 (by rw [hz2, List.map_map]; exact hrep) (Reps.c1 _) hone (Disj.no' _) hf
  have hsz : xs'.size = len * sz := by rw [f4, size_madeCells]
  have hm : len ≤ maxLen := by
    have := Nat.le_mul_of_pos_right len h0
    simp only [maxLen]; omega
  have hcells : Reps w Sh KF cs Ft xs'.toList := Reps.wider (Le.refl _) (fun _ _ h => h) (Le.or (Le.no _) (Le.refl _)) f2
  have hrow := rep_row (w := w) (Sh := Sh) (K := KF) (e := e) (sz := sz) (n := len) (cap := len) (xs := xs'.toList) (ys := []) (by simpa using hsz) (by simpa using hsz) (Nat.le_refl _) hm h0 f3 hcells hbt
  have hpe : (parts.map fun (i, x) => (i, a.eval x)).toList = parts.toList.map fun x => (x.1, a.eval x.2) := by simp
  refine wp_value (v := .slice (some ⟨w.heap.size, 0, none⟩) len len) (w' := w.alloc (.cells xs' e)) ?_ ?_
  · unfold execOp
    rw [ho]
    show (do let v ← Instr.buildSlice t len (parts.map fun (i, x) => (i, a.eval x)); pure (Next.value v) : Sem Next).run P w = _
    rw [Sem.run_bind]
    by_cases hp : len * sz = 0
    · rw [run_buildSlice0 (P := P) w ht hs hz hl hp (cells := xs') (by
        rw [hpe]
        have : madeCells z.cells (len * sz) = #[] := by rw [hp]; simp [madeCells]
        rw [this] at f1; exact f1)]
      rfl
    · have hs' := hs
      have hz' := hz
      unfold szT at hs'
      unfold zeroT at hz'
      rw [Option.map_eq_some_iff] at hs'
      rw [Option.bind_eq_some_iff] at hz'
      obtain ⟨inf, hinf, hs'⟩ := hs'
      obtain ⟨inf', hinf', hz'⟩ := hz'
      rw [hinf] at hinf'; cases hinf'
      rw [run_buildSlice w t e len _ xs' inf z ht hinf hz' (by rw [hs']; omega) (by rw [hs']; exact hp) (by rw [hpe, hs']; exact f1)]
      rfl
  · refine moved (σ1 := σ1) I I1 hle hdt hft hC hdk (Keeps.alloc w _) (Le.no _) (by simpa using hrow) (fun b o f => ?_) (by rw [hd]; exact hn)
    rcases f with f | f
    · subst f; exact ⟨.inr (Nat.le_refl _), by rw [size_alloc]; omega⟩
    · have := hbt b o f
      exact ⟨.inl f, by rw [size_alloc]; omega⟩

/-! Appends. -/
theorem Reps.pl : ∀ {cs : List AV} {F : Foot} {xs : List Value}, cs.all isPl = true → Reps w Sh K cs F xs → Reps w Sh KF cs noF xs
  | [], F, xs, hp, h => by simpa only [Reps] using h
  | c :: cs, F, xs, hp, h => by
    simp only [List.all_cons, Bool.and_eq_true] at hp
    simp only [Reps] at h ⊢
    obtain ⟨x, xs', F1, F2, rfl, h1, h2, hd, l1, l2⟩ := h
    refine ⟨x, xs', noF, noF, rfl, ?_, h2.pl hp.2, Disj.no _, Le.refl _, Le.refl _⟩
    have := hp.1
    cases c <;> simp only [isPl, Bool.false_eq_true] at this <;> simpa only [Rep] using h1
theorem Cpy.sound (I : Inv w Sh Fs V σ) {x : AV} {vx : Value} {m : Nat} {L : List AV} (hr : Rep w Sh (KS w V σ) x noF vx) (h : Cpy σ x m L) :
    ∃ A c news, vx = .slice A m c ∧ (∀ ad, A = some ad → ∀ (j : Nat) (u : Value), news[j]? = some u → w.cell? (ad.add j) = some u) ∧ (news ≠ [] → ∃ ad, A = some ad) ∧ (∀ u ∈ news, u.oneCell' = true) ∧ Reps w Sh KF L noF news := by
  cases h with
  | im m cs =>
    simp only [Rep] at hr
    obtain ⟨A, cap, xs, rfl, hn, hc, h1, hrs⟩ := hr
    refine ⟨A, cap, xs, rfl, fun ad e j u hj => ?_, fun hx => ?_, h1, hrs⟩
    · obtain ⟨ad', e', hcell⟩ := hc (by rintro rfl; simp at hj)
      rw [e] at e'; cases e'
      exact (hcell j u hj).1
    · obtain ⟨ad', e', -⟩ := hc hx
      exact ⟨ad', e'⟩
  | vw r off m e sz k p cs hn hl hp =>
    obtain ⟨h, A, m', cap, A', cap', hat, e1, e2, e3, e4, e5, e6⟩ := I.view hr hn
    obtain ⟨f, u, Fx, Fr, hf, hx, hat2, -⟩ := Rep.deep p (I.rep r) hn
    obtain ⟨rfl, -⟩ := hat2.det hat
    simp only [Rep] at hx
    obtain ⟨xs, H, ho, hz, hg, h1, hle, hrs⟩ := hx
    have hnews := ((hrs.drop off).take (m * sz)).pl hp
    have hlen := hrs.length
    refine ⟨A', cap', (xs.drop off).take (m * sz), e2, fun ad e j y hj => ?_, fun hne => ?_, fun y hy => h1 y (List.mem_of_mem_drop (List.mem_of_mem_take hy)), hnews⟩
    · have hj' : (xs.drop off)[j]? = some y := by
        rw [List.getElem?_take] at hj
        split at hj
        · exact hj
        · cases hj
      rw [List.getElem?_drop] at hj'
      have hlt := (List.getElem?_eq_some_iff.1 hj).1
      have hm0 : m ≠ 0 := by rintro rfl; simp at hlt
      have hcs : cs ≠ [] := by
        rintro rfl
        have h1' := (List.getElem?_eq_some_iff.1 hj').1
        simp at hlen; omega
      obtain ⟨ad0, rfl⟩ := e6 hcs
      have had : ad = ad0.add off := by
        by_cases hz0 : off = 0
        · subst hz0; rw [(e4 rfl).1] at e; cases e; rw [add_zero']
        · rw [e5 hz0 hm0] at e; simpa using e.symm
      rcases ho.2 with ⟨e', -⟩ | ⟨g, cap2, cur, e', -⟩
      · rw [e'] at e1; cases e1
      · rw [e'] at e1; cases e1
        rw [had, add_add]
        exact ho.cells (g := g) (by rw [e']; rfl) _ _ hj'
    · have hxs : xs ≠ [] := by rintro rfl; simp at hne
      have hcs : cs ≠ [] := by rintro rfl; simp at hlen; exact hxs (List.eq_nil_of_length_eq_zero hlen.symm)
      obtain ⟨ad0, rfl⟩ := e6 hcs
      by_cases hz0 : off = 0
      · exact ⟨ad0, (e4 hz0).1⟩
      · have hm0 : m ≠ 0 := by rintro rfl; simp at hne
        exact ⟨_, e5 hz0 hm0⟩
theorem Base.sound {e sz n : Nat} {b : AV} {cs : List AV} {F : Foot} {v : Value} (hB : Base e sz b n cs) (h : Rep w Sh KF b F v) : ∃ xs G, w.ownsRow 0 e sz v n xs ∧ (∀ g, v.ownBlock = some g → (∀ o, F g o) ∧ ∀ o, ¬ G g o) ∧ (∀ u ∈ xs, u.oneCell' = true) ∧ Le G F ∧ Reps w Sh KF cs G xs := by
  cases hB with
  | nl =>
    simp only [Rep] at h
    subst h
    exact ⟨[], noF, World.ownsRow_nil w 0 e sz, fun g hg => by simp [Value.ownBlock] at hg, by simp, Le.no _, by simp [Reps]⟩
  | ow n cs =>
    simp only [Rep] at h
    obtain ⟨xs, G, ho, hz, hg, h1, hle, hr⟩ := h
    exact ⟨xs, G, ho, hg, h1, hle, hr⟩
theorem run_append_zero (w : World) {t e sz n c : Nat} {ty : TypeId} {A : Option Addr} {v : Value} {xs : List Value} (ht : P.underlying t = some (.slice e)) (hs : szT P e = some sz) (ho : w.ownsRow 0 e sz v n xs) : (Builtin.append_ #[t, t] ty #[v, .slice A 0 c]).run P w = .ok v w := by
  have hv : ∃ B cap, v = .slice B n cap ∧ n ≤ cap := by
    rcases ho.2 with ⟨rfl, rfl⟩ | ⟨g, cap, cur, rfl, -, -, h, -⟩
    · exact ⟨_, _, rfl, Nat.le_refl _⟩
    · exact ⟨_, _, rfl, h⟩
  obtain ⟨B, cap, rfl, hn⟩ := hv
  have hfc : (Builtin.firstCells sz 0 (.slice A 0 c)).run P w = .ok #[] w := by
    cases A <;> simp [Builtin.firstCells, loadCells, loadCellsFrom]
  simp only [Builtin.append_, Sem.run_bind, Sem.run_pure, Result.andThen_ok, run_underlying ht, run_sizeOf hs, Builtin.lenOf, Nat.add_zero, hn, if_true, List.getElem?_toArray, List.getElem?_cons_zero, List.getElem?_cons_succ, hfc, Bool.not_false, Bool.false_eq_true, if_false]
  cases B <;> simp [storeCells, hfc]
/-- What an append leaves. -/
theorem grown_rep {e sz n m : Nat} {v v' : Value} {xs news : List Value} {cs L : List AV} {F G G2 : Foot} (hz : 0 < sz) (ho : w.ownsRow 0 e sz v n xs) (ho' : w'.ownsRow 0 e sz v' (n + m) (xs ++ news)) (hg : w.grownBy w' v.ownBlock) (hb : v'.ownBlock = v.ownBlock ∨ v'.ownBlock = some w.heap.size)
    (hF : ∀ g, v.ownBlock = some g → (∀ o, F g o) ∧ ∀ o, ¬ G g o) (h1 : ∀ u ∈ xs, u.oneCell' = true) (h2 : ∀ u ∈ news, u.oneCell' = true) (hr : Reps w Sh KF cs G xs) (hr2 : Reps w Sh KF L G2 news) (hd : Disj G G2) (hG2 : ∀ g, v.ownBlock = some g → ∀ o, ¬ G2 g o) (hbG : Bd w G) (hbG2 : Bd w G2) (hsh : Disj F Sh) :
    Keeps (fun b _ => v.ownBlock = some b) w w' ∧ Rep w' Sh KF (.ow e sz (n + m) (cs ++ L)) (Or (fun b _ => v'.ownBlock = some b) (Or G G2)) v' ∧ (∀ b, v'.ownBlock = some b → b < w'.heap.size) ∧ (∀ b, v.ownBlock = some b → b < w.heap.size) := by
  have hcell : ∀ g, v.ownBlock = some g → ∃ arr t fr, w.heap[g]? = some (Obj.cells arr t fr) := by
    intro g e
    rcases ho.2 with ⟨rfl, -⟩ | ⟨g', cap, cur, rfl, -, hh, -⟩
    · simp [Value.ownBlock] at e
    · simp only [Value.ownBlock, Option.some.injEq] at e; subst e; exact ⟨_, _, _, hh⟩
  have hk : Keeps (fun b _ => v.ownBlock = some b) w w' := Keeps.grown hg (fun g e o => e) hcell
  have hlt : ∀ b, v.ownBlock = some b → b < w.heap.size := fun b e => by obtain ⟨_, _, _, h⟩ := hcell b e; exact lt_of_heap h
  have hlt' : ∀ b, v'.ownBlock = some b → b < w'.heap.size := by
    intro g e
    rcases ho'.2 with ⟨rfl, -⟩ | ⟨g', cap, cur, rfl, -, hh, -⟩
    · simp [Value.ownBlock] at e
    · simp only [Value.ownBlock, Option.some.injEq] at e; subst e; exact lt_of_heap hh
  refine ⟨hk, ?_, hlt', hlt⟩
  simp only [Rep]
  refine ⟨xs ++ news, Or G G2, ho', hz, fun g e => ⟨fun o => .inl e, fun o f => ?_⟩, fun u hu => (List.mem_append.1 hu).elim (h1 u) (h2 u), Le.right _ _, ?_⟩
  · rcases hb with hb | hb
    · rw [hb] at e
      exact f.elim ((hF g e).2 o) (hG2 g e o)
    · rw [hb] at e; cases e
      exact f.elim (fun f => absurd (hbG _ _ f) (Nat.lt_irrefl _)) (fun f => absurd (hbG2 _ _ f) (Nat.lt_irrefl _))
  · refine Reps.frame hk ?_ (Le.refl _) _ (fun _ _ h => h) ?_ (Le.refl _) (hr.append hr2 hd)
    · intro b o s e; exact hsh b o ((hF b e).1 o) s
    · exact Disj.or (fun b o e f => (hF b e).2 o f) (fun b o e f => hG2 b e o f)
theorem s_appendC {σ1 : Nat → AV} {t e sz by_ n m : Nat} {s x : Operand} {b : AV} {cs L : List AV} {z : Value} {d : Nat} (ho : o.op = .call { callee := .builtin .append, args := #[s, x], argTypes := #[t, t] }) (hd : o.dst = some d) (ht : P.underlying t = some (.slice e)) (hs : szT P e = some sz) (hb : bytesT P e = some by_) (hz : zeroT P e = some z) (hzs : z.cells.size = sz) (h0 : 0 < sz)
    (h : TakeL σ [ov σ s] [b] σ1) (hB : Base e sz b n cs) (hc : Cpy σ (ov σ x) m L) (hL : L.length = m * sz) (h63 : n + m ≤ maxLen) (hby : (n + m) * by_ ≤ 140737488355328) : SOp P o σ (put σ1 d (.ow e sz (n + m) (cs ++ L))) := by
  intro N w Sh Fs V a I hC hdk next Q hn
  obtain ⟨Fs1, Ft, I1, hrep, hle, hdt, hft, -⟩ := h.sound I (Reps.one (I.ov hC.va s))
  obtain ⟨v, e', hrep⟩ := hrep.of_one
  cases e'
  obtain ⟨xs, G, hown, hg, h1, hGF, hr⟩ := hB.sound hrep
  obtain ⟨A, c, news, q1, q2, q3, q4, q5⟩ := hc.sound I (I.ov hC.va x)
  have hbt : Bd w Ft := fun b o f => by obtain ⟨r, g⟩ := hft b o f; exact I.bnd r b o g
  have hst : Disj Ft Sh := fun b o f s => by obtain ⟨r, g⟩ := hft b o f; exact I.shd r b o g s
  have hnl : news.length = m * sz := by rw [← q5.length, hL]
  have key : ∃ v' w', (Builtin.append_ #[t, t] o.type #[a.eval s, .slice A m c]).run P w = .ok v' w' ∧ w'.ownsRow 0 e sz v' (n + m) (xs ++ news) ∧ w.grownBy w' (a.eval s).ownBlock ∧ (v'.ownBlock = (a.eval s).ownBlock ∨ v'.ownBlock = some w.heap.size) := by
    cases A with
    | none =>
      have hne : news = [] := by
        cases hnews : news with
        | nil => rfl
        | cons y ys => obtain ⟨ad, e⟩ := q3 (by rw [hnews]; simp); cases e
      have hm : m = 0 := by
        rw [hne] at hnl; simp only [List.length_nil] at hnl
        rcases Nat.eq_zero_or_pos m with h | h
        · exact h
        · have := Nat.mul_pos h h0; omega
      subst hm; subst hne
      exact ⟨_, w, run_append_zero w ht hs hown, by simpa using hown, ⟨rfl, rfl, rfl, Nat.le_refl _, fun _ _ _ => rfl⟩, .inl rfl⟩
    | some ad =>
      have hs' := hs
      have hz' := hz
      have hb' := hb
      unfold szT at hs'
      unfold zeroT at hz'
      unfold bytesT at hb'
      rw [Option.map_eq_some_iff] at hs' hb'
      rw [Option.bind_eq_some_iff] at hz'
      obtain ⟨inf, hinf, hs'⟩ := hs'
      obtain ⟨inf', hinf', hz'⟩ := hz'
      obtain ⟨inf'', hinf'', hb'⟩ := hb'
      rw [hinf] at hinf' hinf''; cases hinf'; cases hinf''
      obtain ⟨v', w', g1, g2, g3, g4, g5⟩ := run_append_own_at (P := P) w 0 t o.type e inf z sz by_ ht hinf hz' hs' hb' hzs h0 (a.eval s) n xs hown ad m c news hnl (q2 ad rfl) q4 h63 hby (Nat.zero_le _)
      exact ⟨v', w', g1, g2, g3, g5⟩
  obtain ⟨v', w', g1, g2, g3, g4⟩ := key
  obtain ⟨r1, r2, r3, r4⟩ := grown_rep (Sh := Sh) (F := Ft) (G2 := noF) h0 hown g2 g3 g4 hg h1 q4 hr q5 (Disj.no _) (fun _ _ _ f => f) (fun b o f => hbt b o (hGF b o f)) (fun _ _ f => f.elim) hst
  refine wp_value (v := v') (w' := w') ?_ ?_
  · simp only [execOp, ho, resolve, invoke, builtin, Sem.run_bind, Sem.run_pure, Result.andThen_ok, List.map_toArray, List.map_cons, List.map_nil, q1, g1]
  · refine moved (σ1 := σ1) I I1 hle hdt hft hC hdk r1 (fun b o e => (hg b e).1 o) r2 (fun b o f => ?_) (by rw [hd]; exact hn)
    rcases f with f | f | f
    · refine ⟨?_, r3 b f⟩
      rcases g4 with g4 | g4
      · rw [g4] at f; exact .inl ((hg b f).1 o)
      · rw [g4] at f; cases f; exact .inr (Nat.le_refl _)
    · exact ⟨.inl (hGF b o f), Nat.lt_of_lt_of_le (hbt b o (hGF b o f)) r1.size⟩
    · exact f.elim
theorem zeroCells_one {z : Array Value} {m : Nat} (h : ∀ u ∈ z.toList, u.oneCell' = true) (hz : 0 < z.size) : ∀ u ∈ (Builtin.zeroCells z m).toList, u.oneCell' = true := by
  intro u hu
  simp only [Builtin.zeroCells, Array.toList_map, List.mem_map] at hu
  obtain ⟨i, -, rfl⟩ := hu
  have hi : i % z.size < z.size := Nat.mod_lt _ hz
  rw [getElem!_pos z (i % z.size) hi]
  exact h _ (by simp)
/-- Noughts behind an own slice: as they would be made there. -/
theorem run_append_zeros (w : World) (t tn ty e : TypeId) (i : TypeInfo) (z : Value) (k kn : IntKind) (size bytes : Nat) (ht : P.underlying t = some (.slice e)) (htn : P.underlying tn = some (.int kn)) (hi : P.info? e = some i) (hz : i.zero = some z)
    (hsize : i.size = size) (hby : i.bytes = bytes) (hzs : z.cells.size = size) (hsz : 0 < size) (h1 : ∀ u ∈ z.cells.toList, u.oneCell' = true)
    (v : Value) (n : Nat) (xs : List Value) (hown : w.ownsRow 0 e size v n xs) (m : Nat) (h63 : n + m ≤ maxLen) (hbytes : (n + m) * bytes ≤ 140737488355328) :
    ∃ v' w', (Builtin.append_ #[t, tn] ty #[v, .int k m]).run P w = .ok v' w' ∧ w'.ownsRow 0 e size v' (n + m) (xs ++ (Builtin.zeroCells z.cells m).toList) ∧ w.grownBy w' v.ownBlock ∧ (v'.ownBlock = v.ownBlock ∨ v'.ownBlock = some w.heap.size) := by
  subst hsize
  subst hby
  have hsmall : n + m ≤ 9223372036854775807 := by simp only [maxLen] at h63; omega
  have hzl : (Builtin.zeroCells z.cells m).toList.length = m * i.size := by rw [Array.length_toList, size_zeroCells, hzs]
  have hlen : (xs ++ (Builtin.zeroCells z.cells m).toList).length = (n + m) * i.size := by rw [List.length_append, hown.1, hzl, Nat.add_mul]
  have hmb : m * i.bytes ≤ (n + m) * i.bytes := Nat.mul_le_mul_right _ (by omega)
  -- a new row
  have grown : ∀ (old : Nat), old < n + m → ∀ (row : Option Nat),
      (w.drew.alloc (.cells (xs.toArray ++ Builtin.zeroCells z.cells m ++ Builtin.zeroCells z.cells (grownCap w (n + m) old e - (n + m))) e)).ownsRow 0 e i.size
        (.slice (some ⟨w.heap.size, 0, none⟩) (n + m) (grownCap w (n + m) old e)) (n + m) (xs ++ (Builtin.zeroCells z.cells m).toList) ∧
      w.grownBy (w.drew.alloc (.cells (xs.toArray ++ Builtin.zeroCells z.cells m ++ Builtin.zeroCells z.cells (grownCap w (n + m) old e - (n + m))) e)) row := by
    intro old ho row
    have hge := grownCap_ge w (n + m) old e
    refine ⟨⟨hlen, .inr ⟨w.heap.size, _, _, rfl, Nat.zero_le _, heap_alloc_new w.drew _, hge, grownCap_le_maxLen w (n + m) old e h63, ?_, ?_⟩⟩, ⟨rfl, rfl, rfl, by simp, fun k hk _ => heap_alloc_old w.drew _ hk⟩⟩
    · simp only [Array.size_append, List.size_toArray, size_zeroCells, hzs, hown.1, ← Nat.add_mul]
      congr 1
      omega
    · simp only [Array.toList_append, List.append_assoc]
      rw [← List.append_assoc, ← hlen]
      exact List.take_left
  by_cases hm : m = 0
  · subst hm
    have hnil : (Builtin.zeroCells z.cells 0).toList = [] := List.eq_nil_of_length_eq_zero (by rw [hzl]; simp)
    refine ⟨v, w, ?_, by rw [hnil, List.append_nil, Nat.add_zero]; exact hown, ⟨rfl, rfl, rfl, Nat.le_refl _, fun _ _ _ => rfl⟩, .inl rfl⟩
    have hw : IntKind.i64.wrap (0 : Int) = 0 := by rw [IntKind.wrap_i64]; omega
    rcases hown.2 with ⟨rfl, rfl⟩ | ⟨g, cap, cur, rfl, hbg, hg, hnc, hcm, hcs, htake⟩
    · simp [Builtin.append_, run_underlying ht, run_underlying htn, sizeOf, typeInfo, hi, asInt, asIntOf, hw]
    · simp [Builtin.append_, run_underlying ht, run_underlying htn, sizeOf, typeInfo, hi, asInt, asIntOf, hw, hnc, storeCells]
  rcases hown.2 with ⟨rfl, rfl⟩ | ⟨g, cap, cur, rfl, hbg, hg, hnc, hcm, hcs, htake⟩
  · have hx : xs = [] := List.eq_nil_of_length_eq_zero (by simpa using hown.1)
    subst hx
    have hr := Go.Lib.run_append_nil_zeros (P := P) w t tn ty e i z k kn ht htn hi hz m (by omega) hsz (by omega) (by omega)
    have hgr := grown 0 (by omega) (Value.ownBlock (.slice none 0 0))
    simp only [Nat.zero_add, List.nil_append, Array.empty_append] at hgr ⊢
    exact ⟨_, _, hr, hgr.1, hgr.2, Or.inr rfl⟩
  · by_cases hroom : n + m ≤ cap
    · have hfit : n * i.size + (Builtin.zeroCells z.cells m).toList.length ≤ cur.size := by rw [hzl, hcs, ← Nat.add_mul]; exact Nat.mul_le_mul_right _ hroom
      have hst := run_storeCells_at P g (n * i.size) e (Builtin.zeroCells z.cells m).toList 0 cur w hg (by simpa using hfit) (zeroCells_one h1 (by omega))
      simp only [Nat.add_zero] at hst
      have hw : IntKind.i64.wrap (m : Int) = m := by rw [IntKind.wrap_i64]; omega
      have hneg : ¬ ((m : Int) < 0) := by omega
      have h48i : ¬ (281474976710656 < (m : Int) * (i.bytes : Int)) := by rw [← Int.natCast_mul]; omega
      have hns : ¬ (m * i.size = 0) := Nat.mul_ne_zero hm (by omega)
      have hr : (Builtin.append_ #[t, tn] ty #[.slice (some ⟨g, 0, none⟩) n cap, .int k m]).run P w = .ok (.slice (some ⟨g, 0, none⟩) (n + m) cap) (w.setRow g (cur.toList.take (n * i.size) ++ (Builtin.zeroCells z.cells m).toList ++ cur.toList.drop (n * i.size + (Builtin.zeroCells z.cells m).toList.length)).toArray) := by
        simp [Builtin.append_, run_underlying ht, run_underlying htn, sizeOf, typeInfo, zeroValue, hi, hz, asInt, asIntOf, hw, hneg, h48i, hns, hroom, Addr.add_lit, hst]
      refine ⟨_, _, hr, ⟨hlen, .inr ⟨g, cap, _, rfl, hbg, setRow_heap w g cur _ e _ hg, hroom, hcm, ?_, ?_⟩⟩, ⟨rfl, rfl, rfl, by simp, fun k _ hk => setRow_other w g k _ (fun e => hk (by simp [Value.ownBlock, e]))⟩, Or.inl rfl⟩
      · simp only [List.size_toArray, List.length_append, List.length_take, List.length_drop, Array.length_toList]
        simp only [Array.length_toList] at hfit
        omega
      · rw [htake, ← hlen]
        exact List.take_left
    · have holds : ∀ j u, xs[j]? = some u → w.cell? ((⟨g, 0, none⟩ : Addr).add j) = some u := hown.cells (g := g) rfl
      have hf := run_firstCells_some (P := P) w.drew i.size n ⟨g, 0, none⟩ n cap xs hown.1 (fun j u hj => holds j u hj)
      have hr := Go.Lib.run_append_grow_zeros (P := P) w t tn ty e i z k kn ht htn hi hz (some ⟨g, 0, none⟩) n cap xs hf m (by omega) hsz (by omega) (by omega) (by omega) (growslice_fits (by omega) hbytes)
      have hgr := grown cap (by omega) (Value.ownBlock (.slice (some ⟨g, 0, none⟩) n cap))
      exact ⟨_, _, hr, hgr.1, hgr.2, Or.inr rfl⟩
theorem s_appendZ {σ1 : Nat → AV} {t tn e sz by_ n m : Nat} {s x : Operand} {b : AV} {cs : List AV} {z : Value} {k kn : IntKind} {d : Nat} (ho : o.op = .call { callee := .builtin .append, args := #[s, x], argTypes := #[t, tn] }) (hd : o.dst = some d) (ht : P.underlying t = some (.slice e)) (htn : P.underlying tn = some (.int kn)) (hs : szT P e = some sz) (hb : bytesT P e = some by_) (hz : zeroT P e = some z) (hzs : z.cells.size = sz) (h0 : 0 < sz) (hz1 : z.cells.toList.all (·.oneCell') = true)
    (h : TakeL σ [ov σ s] [b] σ1) (hB : Base e sz b n cs) (hx : ov σ x = .sc (.int k m)) (h63 : n + m ≤ maxLen) (hby : (n + m) * by_ ≤ 140737488355328) : SOp P o σ (put σ1 d (.ow e sz (n + m) (cs ++ (Builtin.zeroCells z.cells m).toList.map c1))) := by
  intro N w Sh Fs V a I hC hdk next Q hn
  obtain ⟨Fs1, Ft, I1, hrep, hle, hdt, hft, -⟩ := h.sound I (Reps.one (I.ov hC.va s))
  obtain ⟨v, e', hrep⟩ := hrep.of_one
  cases e'
  obtain ⟨xs, G, hown, hg, h1, hGF, hr⟩ := hB.sound hrep
  have hxv := I.ov hC.va x
  rw [hx] at hxv
  simp only [Rep] at hxv
  obtain ⟨q1, -⟩ := hxv
  have hbt : Bd w Ft := fun b o f => by obtain ⟨r, g⟩ := hft b o f; exact I.bnd r b o g
  have hst : Disj Ft Sh := fun b o f s => by obtain ⟨r, g⟩ := hft b o f; exact I.shd r b o g s
  have hz1' : ∀ u ∈ z.cells.toList, u.oneCell' = true := List.all_eq_true.1 hz1
  have q4 := zeroCells_one (m := m) hz1' (by omega)
  have q5 : Reps w Sh KF ((Builtin.zeroCells z.cells m).toList.map c1) noF (Builtin.zeroCells z.cells m).toList := Reps.c1 _
  have hs' := hs
  have hz' := hz
  have hb' := hb
  unfold szT at hs'
  unfold zeroT at hz'
  unfold bytesT at hb'
  rw [Option.map_eq_some_iff] at hs' hb'
  rw [Option.bind_eq_some_iff] at hz'
  obtain ⟨inf, hinf, hs'⟩ := hs'
  obtain ⟨inf', hinf', hz'⟩ := hz'
  obtain ⟨inf'', hinf'', hb'⟩ := hb'
  rw [hinf] at hinf' hinf''; cases hinf'; cases hinf''
  obtain ⟨v', w', g1, g2, g3, g4⟩ := run_append_zeros (P := P) w t tn o.type e inf z k kn sz by_ ht htn hinf hz' hs' hb' hzs h0 hz1' (a.eval s) n xs hown m h63 hby
  obtain ⟨r1, r2, r3, r4⟩ := grown_rep (Sh := Sh) (F := Ft) (G2 := noF) h0 hown g2 g3 g4 hg h1 q4 hr q5 (Disj.no _) (fun _ _ _ f => f) (fun b o f => hbt b o (hGF b o f)) (fun _ _ f => f.elim) hst
  refine wp_value (v := v') (w' := w') ?_ ?_
  · simp only [execOp, ho, resolve, invoke, builtin, Sem.run_bind, Sem.run_pure, Result.andThen_ok, List.map_toArray, List.map_cons, List.map_nil, q1, g1]
  · refine moved (σ1 := σ1) I I1 hle hdt hft hC hdk r1 (fun b o e => (hg b e).1 o) r2 (fun b o f => ?_) (by rw [hd]; exact hn)
    rcases f with f | f | f
    · refine ⟨?_, r3 b f⟩
      rcases g4 with g4 | g4
      · rw [g4] at f; exact .inl ((hg b f).1 o)
      · rw [g4] at f; cases f; exact .inr (Nat.le_refl _)
    · exact ⟨.inl (hGF b o f), Nat.lt_of_lt_of_le (hbt b o (hGF b o f)) r1.size⟩
    · exact f.elim
theorem s_appendN {σ1 : Nat → AV} {t e : Nat} {s x : Operand} {b : AV} {d sz : Nat} (ho : o.op = .call { callee := .builtin .append, args := #[s, x], argTypes := #[t, t] }) (hd : o.dst = some d) (ht : P.underlying t = some (.slice e)) (hs : szT P e = some sz)
    (h : TakeL σ [ov σ s] [b] σ1) (hB : b = .nl ∨ ∃ n cs, b = .ow e sz n cs) (hc : ov σ x = .nl) : SOp P o σ (put σ1 d b) := by
  intro N w Sh Fs V a I hC hdk next Q hn
  obtain ⟨Fs1, Ft, I1, hrep, hle, hdt, hft, -⟩ := h.sound I (Reps.one (I.ov hC.va s))
  obtain ⟨v, e', hrep⟩ := hrep.of_one
  cases e'
  have hx := I.ov hC.va x
  rw [hc] at hx
  simp only [Rep] at hx
  have hbt : Bd w Ft := fun b o f => by obtain ⟨r, g⟩ := hft b o f; exact I.bnd r b o g
  have hBase : ∃ n cs, Base e sz b n cs := by
    rcases hB with rfl | ⟨n, cs, rfl⟩
    · exact ⟨0, [], .nl⟩
    · exact ⟨n, cs, .ow n cs⟩
  obtain ⟨n, cs, hBase⟩ := hBase
  obtain ⟨xs, G, hown, -⟩ := hBase.sound hrep
  refine wp_value (v := a.eval s) (w' := w) ?_ ?_
  · simp only [execOp, ho, resolve, invoke, builtin, Sem.run_bind, Sem.run_pure, Result.andThen_ok, List.map_toArray, List.map_cons, List.map_nil, hx, run_append_zero w ht hs hown]
  · exact moved (σ1 := σ1) I I1 hle hdt hft hC hdk (Keeps.refl noF w) (Le.no _) hrep (fun b o f => ⟨.inl f, hbt b o f⟩) (by rw [hd]; exact hn)
theorem s_appendM {σ1 : Nat → AV} {t e sz by_ n m : Nat} {s x : Operand} {b : AV} {cs L : List AV} {z : Value} {d : Nat} (ho : o.op = .call { callee := .builtin .append, args := #[s, x], argTypes := #[t, t] }) (hd : o.dst = some d) (ht : P.underlying t = some (.slice e)) (hs : szT P e = some sz) (hb : bytesT P e = some by_) (hz : zeroT P e = some z) (hzs : z.cells.size = sz) (h0 : 0 < sz)
    (h : TakeL σ [ov σ s, ov σ x] [b, .ow e sz m L] σ1) (hB : Base e sz b n cs) (h63 : n + m ≤ maxLen) (hby : (n + m) * by_ ≤ 140737488355328) : SOp P o σ (put σ1 d (.ow e sz (n + m) (cs ++ L))) := by
  intro N w Sh Fs V a I hC hdk next Q hn
  have hargs : Reps w Sh (KS w V σ) [ov σ s, ov σ x] noF [a.eval s, a.eval x] := by
    have h1 := Reps.one (I.ov hC.va x)
    simp only [Reps] at h1 ⊢
    exact ⟨_, _, noF, noF, rfl, I.ov hC.va s, h1, Disj.no _, Le.refl _, Le.refl _⟩
  obtain ⟨Fs1, Ft, I1, hrep, hle, hdt, hft, -⟩ := h.sound I hargs
  simp only [Reps] at hrep
  obtain ⟨v, vs, F1, F2, e1, hrs, ⟨vx, vs2, F3, F4, e2, hrx, -, -, l3, -⟩, hd12, l1, l2⟩ := hrep
  cases e1; cases e2
  obtain ⟨xs, G, hown, hg, h1, hGF, hr⟩ := hB.sound hrs
  simp only [Rep] at hrx
  obtain ⟨news, G2, hox, -, hgx, h2, hG2F, hr2⟩ := hrx
  have hbt : Bd w Ft := fun b o f => by obtain ⟨r, g⟩ := hft b o f; exact I.bnd r b o g
  have hst : Disj Ft Sh := fun b o f s => by obtain ⟨r, g⟩ := hft b o f; exact I.shd r b o g s
  have hG2 : Le G2 F2 := hG2F.trans l3
  have key : ∃ v' w', (Builtin.append_ #[t, t] o.type #[a.eval s, a.eval x]).run P w = .ok v' w' ∧ w'.ownsRow 0 e sz v' (n + m) (xs ++ news) ∧ w.grownBy w' (a.eval s).ownBlock ∧ (v'.ownBlock = (a.eval s).ownBlock ∨ v'.ownBlock = some w.heap.size) := by
    rcases hox.2 with ⟨hv, hm0⟩ | ⟨g0, cap0, cur0, hvx, -⟩
    · subst hm0
      have hne : news = [] := List.eq_nil_of_length_eq_zero (by simpa using hox.1)
      subst hne
      rw [hv]
      exact ⟨_, w, run_append_zero w ht hs hown, by simpa using hown, ⟨rfl, rfl, rfl, Nat.le_refl _, fun _ _ _ => rfl⟩, .inl rfl⟩
    · have hs' := hs
      have hz' := hz
      have hb' := hb
      unfold szT at hs'
      unfold zeroT at hz'
      unfold bytesT at hb'
      rw [Option.map_eq_some_iff] at hs' hb'
      rw [Option.bind_eq_some_iff] at hz'
      obtain ⟨inf, hinf, hs'⟩ := hs'
      obtain ⟨inf', hinf', hz'⟩ := hz'
      obtain ⟨inf'', hinf'', hb'⟩ := hb'
      rw [hinf] at hinf' hinf''; cases hinf'; cases hinf''
      obtain ⟨v', w', g1, g2, g3, -, g4⟩ := run_append_own_at (P := P) w 0 t o.type e inf z sz by_ ht hinf hz' hs' hb' hzs h0 (a.eval s) n xs hown ⟨g0, 0, none⟩ m cap0 news hox.1 (hox.cells (g := g0) (by rw [hvx]; rfl)) h2 h63 hby (Nat.zero_le _)
      rw [hvx]
      exact ⟨v', w', g1, g2, g3, g4⟩
  obtain ⟨v', w', g1, g2, g3, g4⟩ := key
  obtain ⟨r1, r2, r3, r4⟩ := grown_rep (Sh := Sh) (F := F1) (G2 := G2) h0 hown g2 g3 g4 hg h1 h2 hr hr2 (hd12.le hGF hG2) (fun g e o f => hd12 g o ((hg g e).1 o) (hG2 g o f)) (fun b o f => hbt b o (l1 b o (hGF b o f))) (fun b o f => hbt b o (l2 b o (hG2 b o f))) (hst.le l1 (Le.refl _))
  refine wp_value (v := v') (w' := w') ?_ ?_
  · simp only [execOp, ho, resolve, invoke, builtin, Sem.run_bind, Sem.run_pure, Result.andThen_ok, List.map_toArray, List.map_cons, List.map_nil, g1]
  · refine moved (σ1 := σ1) I I1 hle hdt hft hC hdk r1 (fun b o e => l1 b o ((hg b e).1 o)) r2 (fun b o f => ?_) (by rw [hd]; exact hn)
    rcases f with f | f | f
    · refine ⟨?_, r3 b f⟩
      rcases g4 with g4 | g4
      · rw [g4] at f; exact .inl (l1 b o ((hg b f).1 o))
      · rw [g4] at f; cases f; exact .inr (Nat.le_refl _)
    · exact ⟨.inl (l1 b o (hGF b o f)), Nat.lt_of_lt_of_le (hbt b o (l1 b o (hGF b o f))) r1.size⟩
    · exact ⟨.inl (l2 b o (hG2 b o f)), Nat.lt_of_lt_of_le (hbt b o (l2 b o (hG2 b o f))) r1.size⟩
end
end Go.Eng
/- The engine, part M: what is handed over at a call, and what comes back. -/
namespace Go.Eng
open Go
set_option linter.unusedVariables false
set_option linter.unusedSimpArgs false
section
variable {P : Program} {w w' : World} {Sh Sh' : Foot} {Fs : Nat → Foot} {V : Nat → Value} {σ : Nat → AV} {a : Act} {o : Oper} {N : Nat}

mutual
theorem Rep.hard : ∀ (a : AV) {K K' : Value → AV → Prop} {Sh F : Foot} {v : Value}, Rep w Sh K a F v → Rep w (Or Sh F) K' (Eng.hard a) noF v
  | .sc u, _, _, _, _, _, h => by simp only [Eng.hard]; simp only [Rep] at h ⊢; exact h
  | .nl, _, _, _, _, _, h => by simp only [Eng.hard]; simp only [Rep] at h ⊢; exact h
  | .dead, _, _, _, _, _, h => by simp only [Eng.hard, Rep]
  | .vw .., _, _, _, _, _, h => by simp only [Eng.hard, Rep]
  | .ad .., _, _, _, _, _, h => by simp only [Eng.hard, Rep]
  | .im n cs, K, K', Sh, F, v, h => by
    simp only [Eng.hard]
    have h' : Rep w Sh KF (.im n cs) noF v := by simpa only [Rep] using h
    have := Rep.wider (Sh' := Or Sh F) (K' := KF) (Le.left _ _) (fun _ _ h => h) (Le.refl _) h'
    simpa only [Rep] using this
  | .ip cs, K, K', Sh, F, v, h => by
    simp only [Eng.hard]
    have h' : Rep w Sh KF (.ip cs) noF v := by simpa only [Rep] using h
    have := Rep.wider (Sh' := Or Sh F) (K' := KF) (Le.left _ _) (fun _ _ h => h) (Le.refl _) h'
    simpa only [Rep] using this
  | .ow e sz n cs, _, _, Sh, F, v, h => by
    simp only [Eng.hard, Rep] at h ⊢
    obtain ⟨xs, G, ho, hz, hg, h1, hle, hr⟩ := h
    have hrs : Reps w (Or Sh F) (fun _ _ => False) (hardL cs) noF xs := Reps.wider (Le.or (Le.left _ _) (hle.trans (Le.right _ _))) (fun _ _ h => h) (Le.refl _) (Reps.hard cs hr)
    rcases ho.2 with ⟨rfl, rfl⟩ | ⟨g, cap, cur, rfl, hb, hh, h3, h4, h5, h6⟩
    · have hx : xs = [] := List.eq_nil_of_length_eq_zero (by simpa using ho.1)
      subst hx
      exact ⟨none, 0, [], rfl, Nat.le_refl _, fun h => absurd rfl h, h1, hrs⟩
    · refine ⟨some ⟨g, 0, none⟩, cap, xs, rfl, h3, fun _ => ⟨_, rfl, fun j u hj => ⟨ho.cells (g := g) rfl j u hj, .inr ((hg g rfl).1 _)⟩⟩, h1, hrs⟩
  | .op cs, _, _, Sh, F, v, h => by
    simp only [Eng.hard, Rep] at h ⊢
    obtain ⟨ad, xs, G, rfl, hc, h1, hle, hr⟩ := h
    refine ⟨ad, xs, rfl, fun j u hj => ⟨(hc j u hj).1, .inr (hc j u hj).2.2.1⟩, h1, Reps.wider (Le.or (Le.left _ _) (hle.trans (Le.right _ _))) (fun _ _ h => h) (Le.refl _) (Reps.hard cs hr)⟩
  | .ag cs, _, _, Sh, F, v, h => by
    simp only [Eng.hard, Rep] at h ⊢
    obtain ⟨xs, rfl, h1, hr⟩ := h
    exact ⟨xs, rfl, h1, Reps.hard cs hr⟩
  | .tu cs, _, _, Sh, F, v, h => by
    simp only [Eng.hard, Rep] at h ⊢
    obtain ⟨xs, rfl, hr⟩ := h
    exact ⟨xs, rfl, Reps.hard cs hr⟩
theorem Reps.hard : ∀ (cs : List AV) {K K' : Value → AV → Prop} {Sh F : Foot} {xs : List Value}, Reps w Sh K cs F xs → Reps w (Or Sh F) K' (hardL cs) noF xs
  | [], _, _, _, _, _, h => by simpa only [hardL, Reps] using h
  | c :: cs, K, K', Sh, F, xs, h => by
    simp only [hardL, Reps] at h ⊢
    obtain ⟨x, xs', F1, F2, rfl, h1, h2, hd, l1, l2⟩ := h
    exact ⟨x, xs', noF, noF, rfl, Rep.wider (Le.or (Le.left _ _) (l1.trans (Le.right _ _))) (fun _ _ h => h) (Le.refl _) (Rep.hard c (K' := K') h1), Reps.wider (Le.or (Le.left _ _) (l2.trans (Le.right _ _))) (fun _ _ h => h) (Le.refl _) (Reps.hard cs (K' := K') h2), Disj.no _, Le.refl _, Le.refl _⟩
end

theorem Frz.sound (I : Inv w Sh Fs V σ) {x y : AV} {v : Value} (hr : Rep w Sh (KS w V σ) x noF v) (h : Frz σ x y) : Rep w (Or Sh (T Fs)) KF y noF v := by
  cases h with
  | plain a hp =>
    cases x <;> simp only [isPl, Bool.false_eq_true] at hp
    · simpa only [Rep] using hr
    · simpa only [Rep] using hr
    · exact Rep.wider (K := KF) (Le.left _ _) (fun _ _ h => h) (Le.refl _) (by simpa only [Rep] using hr)
    · exact Rep.wider (K := KF) (Le.left _ _) (fun _ _ h => h) (Le.refl _) (by simpa only [Rep] using hr)
  | vw r off n e sz m p cs hn hl =>
    obtain ⟨h, A, m', cap, A', cap', hat, e1, e2, e3, e4, e5, e6⟩ := I.view hr hn
    obtain ⟨f, u, Fx, Fr, hf, hx, hat2, -, hFx, -⟩ := Rep.deep p (I.rep r) hn
    obtain ⟨rfl, -⟩ := hat2.det hat
    simp only [Rep] at hx ⊢
    obtain ⟨xs, H, ho, hz, hg, h1, hle, hrs⟩ := hx
    have hlen := hrs.length
    have hkids : Reps w (Or Sh (T Fs)) (fun _ _ => False) (hardL ((cs.drop off).take (n * sz))) noF ((xs.drop off).take (n * sz)) :=
      Reps.wider (Le.or (Le.left _ _) (fun b o f => .inr ⟨r, hFx b o (hle b o f)⟩)) (fun _ _ h => h) (Le.refl _) (Reps.hard _ (K' := fun _ _ => False) ((hrs.drop off).take (n * sz)))
    refine ⟨A', cap', (xs.drop off).take (n * sz), e2, e3, fun hne => ?_, fun y hy => h1 y (List.mem_of_mem_drop (List.mem_of_mem_take hy)), hkids⟩
    have hxs : xs ≠ [] := by rintro rfl; simp at hne
    have hcs : cs ≠ [] := by rintro rfl; simp at hlen; exact hxs (List.eq_nil_of_length_eq_zero hlen.symm)
    have hn0 : n ≠ 0 := by rintro rfl; simp at hne
    obtain ⟨ad0, rfl⟩ := e6 hcs
    have hA : A' = some (ad0.add off) := by
      by_cases hz0 : off = 0
      · subst hz0; rw [(e4 rfl).1, add_zero']
      · rw [e5 hz0 hn0]; rfl
    refine ⟨_, hA, fun j y hj => ?_⟩
    have hj' : (xs.drop off)[j]? = some y := by
      rw [List.getElem?_take] at hj
      split at hj
      · exact hj
      · cases hj
    rw [List.getElem?_drop] at hj'
    rcases ho.2 with ⟨e', -⟩ | ⟨g, cap2, cur, e', -⟩
    · rw [e'] at e1; cases e1
    · rw [e'] at e1; cases e1
      rw [add_add, add_block, add_off]
      exact ⟨ho.cells (g := g) (by rw [e']; rfl) _ _ hj', .inr ⟨r, hFx _ _ ((hg g (by rw [e']; rfl)).1 _)⟩⟩
  | ad r i p cs hn =>
    obtain ⟨x, hx, hk, hform⟩ := nodeCells_eq hn
    obtain ⟨f, u, Fx, Fr, hf, hxr, hat, -, hFx, -⟩ := Rep.deep p (I.rep r) hx
    simp only [Rep] at hr ⊢
    obtain ⟨ad0, e1, e2⟩ := hr.1 _ _ hat
    have key : ∀ (xs : List Value) (H : Foot), Reps w Sh (fun _ _ => False) cs H xs → Le H Fx → (∀ j y, xs[j]? = some y → w.cell? (ad0.add j) = some y ∧ Fx ad0.block (ad0.off + j)) → (∀ y ∈ xs, y.oneCell' = true) →
        ∃ ad xs, v = .pointer (some ad) ∧ (∀ j u, xs[j]? = some u → w.cell? (ad.add j) = some u ∧ Or Sh (T Fs) ad.block (ad.off + j)) ∧ (∀ u ∈ xs, u.oneCell' = true) ∧ Reps w (Or Sh (T Fs)) (fun _ _ => False) (hardL (cs.drop i)) noF xs := by
      intro xs H hrs hle hcell h1
      refine ⟨ad0.add i, xs.drop i, e1, fun j y hj => ?_, fun y hy => h1 y (List.mem_of_mem_drop hy), Reps.wider (Le.or (Le.left _ _) (fun b o f => .inr ⟨r, hFx b o (hle b o f)⟩)) (fun _ _ h => h) (Le.refl _) (Reps.hard _ (K' := fun _ _ => False) (hrs.drop i))⟩
      rw [List.getElem?_drop] at hj
      obtain ⟨q1, q2⟩ := hcell _ _ hj
      rw [add_add, add_block, add_off, Nat.add_assoc]
      exact ⟨q1, .inr ⟨r, hFx _ _ q2⟩⟩
    rcases hform with ⟨e, sz, n, rfl⟩ | rfl
    · simp only [Rep] at hxr
      obtain ⟨xs, H, ho, hz, hg, h1, hle, hrs⟩ := hxr
      rcases ho.2 with ⟨rfl, rfl⟩ | ⟨g, cap, cur, rfl, -⟩
      · rcases e2 with e2 | ⟨_, _, e2⟩ <;> cases e2
      · have : ad0 = ⟨g, 0, none⟩ := by
          rcases e2 with e2 | ⟨_, _, e2⟩
          · cases e2
          · cases e2; rfl
        subst this
        exact key xs H hrs hle (fun j y hj => ⟨ho.cells (g := g) rfl j y hj, (hg g rfl).1 _⟩) h1
    · simp only [Rep] at hxr
      obtain ⟨ad1, xs, H, rfl, hcc, h1, hle, hrs⟩ := hxr
      have : ad0 = ad1 := by
        rcases e2 with e2 | ⟨_, _, e2⟩
        · cases e2; rfl
        · cases e2
      subst this
      exact key xs H hrs hle (fun j y hj => ⟨(hcc j y hj).1, (hcc j y hj).2.2.1⟩) h1
theorem FrzL.sound (I : Inv w Sh Fs V σ) {xs ys : List AV} (h : FrzL σ xs ys) : ∀ {vs : List Value}, Reps w Sh (KS w V σ) xs noF vs → Reps w (Or Sh (T Fs)) KF ys noF vs := by
  induction h with
  | nil => intro vs hr; simpa only [Reps] using hr
  | cons h k ih =>
    intro vs hr
    simp only [Reps] at hr ⊢
    obtain ⟨x, xs', F1, F2, rfl, h1, h2, hd, l1, l2⟩ := hr
    exact ⟨x, xs', noF, noF, rfl, h.sound I (Rep.wider (Le.refl _) (fun _ _ h => h) l1 h1), ih (Reps.wider (Le.refl _) (fun _ _ h => h) l2 h2), Disj.no _, Le.refl _, Le.refl _⟩
  | ag h k ih1 ih2 =>
    intro vs hr
    simp only [Reps] at hr ⊢
    obtain ⟨x, xs', F1, F2, rfl, h1, h2, hd, l1, l2⟩ := hr
    simp only [Rep] at h1
    obtain ⟨ys, rfl, h1a, h1b⟩ := h1
    refine ⟨_, xs', noF, noF, rfl, ?_, ih2 (Reps.wider (Le.refl _) (fun _ _ h => h) l2 h2), Disj.no _, Le.refl _, Le.refl _⟩
    simp only [Rep]
    exact ⟨ys, rfl, h1a, ih1 (Reps.wider (Le.refl _) (fun _ _ h => h) l1 h1b)⟩
theorem Frz.pl {x y : AV} (h : Frz σ x y) (hp : isPl x = true) : y = x := by
  cases h with
  | plain => rfl
  | vw => simp [isPl] at hp
  | ad => simp [isPl] at hp
theorem FrzL.pl {xs ys : List AV} (h : FrzL σ xs ys) : xs.all isPlA = true → ys = xs := by
  induction h with
  | nil => intro _; rfl
  | @cons x y xs ys h k ih =>
    intro hp
    simp only [List.all_cons, Bool.and_eq_true] at hp
    have hx : isPl x = true := by cases h <;> simp_all [isPlA, isPl]
    rw [h.pl hx, ih hp.2]
  | @ag cs ds as bs h k ih1 ih2 =>
    intro hp
    simp only [List.all_cons, Bool.and_eq_true, isPlA] at hp
    have : cs.all isPlA = true := by
      rw [List.all_eq_true] at hp ⊢
      intro x hx
      have := hp.1 x hx
      cases x <;> simp_all [isPlA, isPl]
    rw [ih1 this, ih2 hp.2]
theorem Rep.plKF {x : AV} {K : Value → AV → Prop} {F : Foot} {v : Value} (hp : isPl x = true) (h : Rep w Sh K x F v) : Rep w Sh KF x noF v := by
  cases x <;> simp only [isPl, Bool.false_eq_true] at hp <;> simpa only [Rep] using h
theorem Reps.plA : ∀ {xs : List AV} {K : Value → AV → Prop} {F : Foot} {vs : List Value}, xs.all isPlA = true → Reps w Sh K xs F vs → Reps w Sh KF xs noF vs
  | [], K, F, vs, hp, h => by simpa only [Reps] using h
  | x :: xs, K, F, vs, hp, h => by
    simp only [List.all_cons, Bool.and_eq_true] at hp
    simp only [Reps] at h ⊢
    obtain ⟨v, vs', F1, F2, rfl, h1, h2, hd, l1, l2⟩ := h
    refine ⟨v, vs', noF, noF, rfl, ?_, h2.plA hp.2, Disj.no _, Le.refl _, Le.refl _⟩
    have h0 := hp.1
    cases x with
    | ag cs =>
      simp only [isPlA] at h0
      simp only [Rep] at h1 ⊢
      obtain ⟨ys, rfl, g1, g2⟩ := h1
      exact ⟨ys, rfl, g1, g2.pl h0⟩
    | _ => exact h1.plKF h0

/-! Exactly what lies there. -/
def KE (w : World) (V : Nat → Value) (σ : Nat → AV) (S : List (Nat × List Nat)) (v : Value) : AV → Prop
  | .vw r p _ _ => (r, p) ∈ S ∧ ∀ h x, At w (V r) (σ r) p h x → h = v
  | .ad r p i => (r, p) ∈ S ∧ ∀ h x, At w (V r) (σ r) p h x → (i = 0 → h = v) ∧ (i ≠ 0 → ∃ ad, h = .pointer (some ad) ∧ v = .pointer (some (ad.add i)))
  | _ => True
theorem KE.mono {σ' : Nat → AV} {S : List (Nat × List Nat)} (hat : ∀ r q h x, (r, q) ∈ S → At w' (V r) (σ' r) q h x → ∃ x', At w (V r) (σ r) q h x') : ∀ v a, KE w V σ S v a → KE w' V σ' S v a := by
  intro v a hk
  cases a <;> simp only [KE] at hk ⊢
  · exact ⟨hk.1, fun h x hx => by obtain ⟨x', hx'⟩ := hat _ _ h x hk.1 hx; exact hk.2 h x' hx'⟩
  · exact ⟨hk.1, fun h x hx => by obtain ⟨x', hx'⟩ := hat _ _ h x hk.1 hx; exact hk.2 h x' hx'⟩
theorem TakeF.sound {σ σ' : Nat → AV} {avs ts : List AV} (h : TakeF σ avs ts σ') : ∀ {Fs : Nat → Foot} {vs : List Value} {S : List (Nat × List Nat)}, (∀ x ∈ refsL avs, x ∈ S) → Inv w Sh Fs V σ → Reps w Sh (KS w V σ) avs noF vs →
    ∃ Fs' Ft, Inv w Sh Fs' V σ' ∧ Reps w Sh KF ts Ft vs ∧ (∀ r, Le (Fs' r) (Fs r)) ∧ (∀ r, Disj Ft (Fs' r)) ∧ (∀ b o, Ft b o → ∃ r, Fs r b o) ∧ (∀ r q h x, At w (V r) (σ' r) q h x → ∃ x', At w (V r) (σ r) q h x') ∧ Reps w Sh (KE w V σ' S) avs noF vs := by
  induction h with
  | nil σ =>
    intro Fs vs S hS I hr
    simp only [Reps] at hr; subst hr
    exact ⟨Fs, noF, I, by simp [Reps], fun _ => Le.refl _, fun _ => Disj.no' _, fun _ _ f => f.elim, fun _ _ _ x h => ⟨x, h⟩, by simp [Reps]⟩
  | @plain σ σ' c as ts hp k ih =>
    intro Fs vs S hS I hr
    simp only [Reps] at hr
    obtain ⟨x, xs', F1, F2, rfl, h1, h2, hd, l1, l2⟩ := hr
    obtain ⟨Fs', Ft, i1, i2, i3, i4, i5, i6, i7⟩ := ih (fun x hx => hS x (by simp [refsL, hx])) I (Reps.wider (Le.refl _) (fun _ _ h => h) l2 h2)
    refine ⟨Fs', Ft, i1, ?_, i3, i4, i5, i6, ?_⟩
    · simp only [Reps]
      exact ⟨x, xs', noF, Ft, rfl, h1.plKF hp, i2, Disj.no' _, Le.no _, Le.refl _⟩
    · simp only [Reps]
      exact ⟨x, xs', noF, noF, rfl, Rep.wider (Le.refl _) (fun _ _ h => h.elim) (Le.refl _) (h1.plKF hp), i7, Disj.no _, Le.refl _, Le.refl _⟩
  | @vw σ σ' r n e sz p cs as ts hn hl k ih =>
    intro Fs vs S hS I hr
    simp only [Reps] at hr
    obtain ⟨x, xs', F1, F2, rfl, h1, h2, hd, l1, l2⟩ := hr
    obtain ⟨f, u, Fx, Fs1, hf, g1, g2, I1, g3, g4, g5, g6⟩ := I.out hn
    have hat1 : ∀ r' q h x, At w (V r') (setS σ r p .dead r') q h x → ∃ x', At w (V r') (σ r') q h x' := by
      obtain ⟨f, u, Fx, Fr, hf, h1, h2, h3, h4, h5, h6⟩ := I.mod hn
      obtain ⟨I', hat⟩ := h6 (w' := w) (Sh' := Sh) (G := noF) (Fx' := noF) (x' := .dead) (bad := fun _ _ => false) (Keeps.refl _ _) (Disj.no' _) (fun _ _ => Disj.no' _) (Disj.no _) (Le.refl _) (fun t _ => I.shd t) ((I.shd r).le h5 (Le.refl _)) (by simp only [Rep]) (Disj.no' _) (fun _ _ => Disj.no' _) (Disj.no' _) (fun _ _ f => f.elim) I.sbd (fun j t h y _ k => by cases k)
      rw [modS_no] at hat
      exact fun r' q h x k => hat r' q h x rfl k
    obtain ⟨Fs', Ft, i1, i2, i3, i4, i5, i6, i7⟩ := ih (fun x hx => hS x (by simp [refsL, hx])) I1 (Reps.wider (Le.refl _) g6 l2 h2)
    have hdx : Disj Fx Ft := fun b o hx ht => by obtain ⟨t, hh⟩ := i5 b o ht; exact g4 t b o hx hh
    simp only [Rep] at h1
    obtain ⟨A, m', cap, e1, e2, -⟩ := h1.1 _ _ g2
    obtain ⟨e3, e4⟩ := e2 rfl
    have hm : m' = n := by
      rw [e1] at g1
      simp only [Rep] at g1
      obtain ⟨xs, G, ho, -⟩ := g1
      rcases ho.2 with ⟨e, rfl⟩ | ⟨g, cap', cur, e, -⟩ <;> cases e <;> rfl
    subst hm
    have hux : u = x := by rw [e1, e3]
    subst hux
    have hat : ∀ r q h x, At w (V r) (σ' r) q h x → ∃ x', At w (V r) (σ r) q h x' := fun r' q h x hh => by
      obtain ⟨x1, hx1⟩ := i6 r' q h x hh
      exact hat1 r' q h x1 hx1
    refine ⟨Fs', Or Fx Ft, i1, ?_, fun t => (i3 t).trans (g3 t), fun t => Disj.or' ((g4 t).le (Le.refl _) (i3 t)) (i4 t), fun b o hh => ?_, hat, ?_⟩
    · simp only [Reps]
      exact ⟨_, xs', Fx, Ft, rfl, g1.kf_own (.inl ⟨e, sz, _, cs, rfl⟩), i2, hdx, Le.left _ _, Le.right _ _⟩
    · rcases hh with hh | hh
      · exact ⟨r, g5 b o hh⟩
      · obtain ⟨t, ht⟩ := i5 b o hh; exact ⟨t, g3 t b o ht⟩
    · simp only [Reps]
      refine ⟨u, xs', noF, noF, rfl, ?_, i7, Disj.no _, Le.refl _, Le.refl _⟩
      simp only [Rep, KE]
      refine ⟨⟨hS _ (by simp [refsL, refs]), fun h y hy => ?_⟩, h1.2⟩
      obtain ⟨y', hy'⟩ := hat r p h y hy
      exact (hy'.det g2).1
  | @ad σ σ' r p cs as ts hn k ih =>
    intro Fs vs S hS I hr
    simp only [Reps] at hr
    obtain ⟨x, xs', F1, F2, rfl, h1, h2, hd, l1, l2⟩ := hr
    obtain ⟨f, u, Fx, Fs1, hf, g1, g2, I1, g3, g4, g5, g6⟩ := I.out hn
    have hat1 : ∀ r' q h x, At w (V r') (setS σ r p .dead r') q h x → ∃ x', At w (V r') (σ r') q h x' := by
      obtain ⟨f, u, Fx, Fr, hf, h1, h2, h3, h4, h5, h6⟩ := I.mod hn
      obtain ⟨I', hat⟩ := h6 (w' := w) (Sh' := Sh) (G := noF) (Fx' := noF) (x' := .dead) (bad := fun _ _ => false) (Keeps.refl _ _) (Disj.no' _) (fun _ _ => Disj.no' _) (Disj.no _) (Le.refl _) (fun t _ => I.shd t) ((I.shd r).le h5 (Le.refl _)) (by simp only [Rep]) (Disj.no' _) (fun _ _ => Disj.no' _) (Disj.no' _) (fun _ _ f => f.elim) I.sbd (fun j t h y _ k => by cases k)
      rw [modS_no] at hat
      exact fun r' q h x k => hat r' q h x rfl k
    obtain ⟨Fs', Ft, i1, i2, i3, i4, i5, i6, i7⟩ := ih (fun x hx => hS x (by simp [refsL, hx])) I1 (Reps.wider (Le.refl _) g6 l2 h2)
    have hdx : Disj Fx Ft := fun b o hx ht => by obtain ⟨t, hh⟩ := i5 b o ht; exact g4 t b o hx hh
    simp only [Rep] at h1
    obtain ⟨ad, e1, e2⟩ := h1.1 _ _ g2
    have hux : u = x := by
      have g1' := g1
      simp only [Rep] at g1'
      obtain ⟨ad', xs, G, rfl, -⟩ := g1'
      rcases e2 with e2 | ⟨_, _, e2⟩
      · cases e2; rw [e1]; simp [Addr.add]
      · cases e2
    subst hux
    have hat : ∀ r q h x, At w (V r) (σ' r) q h x → ∃ x', At w (V r) (σ r) q h x' := fun r' q h x hh => by
      obtain ⟨x1, hx1⟩ := i6 r' q h x hh
      exact hat1 r' q h x1 hx1
    refine ⟨Fs', Or Fx Ft, i1, ?_, fun t => (i3 t).trans (g3 t), fun t => Disj.or' ((g4 t).le (Le.refl _) (i3 t)) (i4 t), fun b o hh => ?_, hat, ?_⟩
    · simp only [Reps]
      exact ⟨_, xs', Fx, Ft, rfl, g1.kf_own (.inr ⟨cs, rfl⟩), i2, hdx, Le.left _ _, Le.right _ _⟩
    · rcases hh with hh | hh
      · exact ⟨r, g5 b o hh⟩
      · obtain ⟨t, ht⟩ := i5 b o hh; exact ⟨t, g3 t b o ht⟩
    · simp only [Reps]
      refine ⟨u, xs', noF, noF, rfl, ?_, i7, Disj.no _, Le.refl _, Le.refl _⟩
      simp only [Rep, KE]
      refine ⟨⟨hS _ (by simp [refsL, refs]), fun h y hy => ⟨fun _ => ?_, fun h => absurd rfl h⟩⟩, h1.2⟩
      obtain ⟨y', hy'⟩ := hat r p h y hy
      exact (hy'.det g2).1
  | @ag σ σ1 σ' cs ds as ts h k ih1 ih2 =>
    intro Fs vs S hS I hr
    simp only [Reps] at hr
    obtain ⟨x, xs', F1, F2, rfl, h1, h2, hd, l1, l2⟩ := hr
    simp only [Rep] at h1
    obtain ⟨ys, rfl, h1a, h1b⟩ := h1
    obtain ⟨Fs1, Ft1, j1, j2, j3, j4, j5, j6, j7⟩ := ih1 (fun x hx => hS x (by simp [refsL, refs, hx])) I (Reps.wider (Le.refl _) (fun _ _ h => h) l1 h1b)
    obtain ⟨Fs', Ft, i1, i2, i3, i4, i5, i6, i7⟩ := ih2 (fun x hx => hS x (by simp [refsL, hx])) j1 (Reps.wider (Le.refl _) (KS.mono j6) l2 h2)
    have hdx : Disj Ft1 Ft := fun b o hx ht => by obtain ⟨t, hh⟩ := i5 b o ht; exact j4 t b o hx hh
    refine ⟨Fs', Or Ft1 Ft, i1, ?_, fun t => (i3 t).trans (j3 t), fun t => Disj.or' ((j4 t).le (Le.refl _) (i3 t)) (i4 t), fun b o hh => ?_, fun r q h x hh => ?_, ?_⟩
    · simp only [Reps]
      refine ⟨_, xs', Ft1, Ft, rfl, ?_, i2, hdx, Le.left _ _, Le.right _ _⟩
      simp only [Rep]
      exact ⟨ys, rfl, h1a, j2⟩
    · rcases hh with hh | hh
      · exact j5 b o hh
      · obtain ⟨t, ht⟩ := i5 b o hh; exact ⟨t, j3 t b o ht⟩
    · obtain ⟨x1, hx1⟩ := i6 r q h x hh
      exact j6 r q h x1 hx1
    · simp only [Reps]
      refine ⟨_, xs', noF, noF, rfl, ?_, i7, Disj.no _, Le.refl _, Le.refl _⟩
      simp only [Rep]
      exact ⟨ys, rfl, h1a, Reps.wider (Le.refl _) (KE.mono fun r q h x _ hh => i6 r q h x hh) (Le.refl _) j7⟩

/-- A variable in two parts. -/
theorem Rep.cut {K : Value → AV → Prop} {cs : List AV} {F : Foot} {v : Value} (i : Nat) (h : Rep w Sh K (.op cs) F v) : ∃ ad F1 F2, v = .pointer (some ad) ∧ Rep w Sh KF (.op (cs.take i)) F1 v ∧ Rep w Sh KF (.op (cs.drop i)) F2 (.pointer (some (ad.add i))) ∧ Disj F1 F2 ∧ Le F1 F ∧ Le F2 F := by
  simp only [Rep] at h
  obtain ⟨ad, xs, G, rfl, hc, h1, hle, hr⟩ := h
  obtain ⟨G1, G2, r1, r2, hd, l1, l2⟩ := Reps.split i hr
  refine ⟨ad, fun b o => (∃ j, j < i ∧ j < xs.length ∧ b = ad.block ∧ o = ad.off + j) ∨ G1 b o, fun b o => (∃ j, i ≤ j ∧ j < xs.length ∧ b = ad.block ∧ o = ad.off + j) ∨ G2 b o, rfl, ?_, ?_, ?_, ?_, ?_⟩
  · simp only [Rep]
    refine ⟨ad, xs.take i, G1, rfl, fun j u hj => ?_, fun u hu => h1 u (List.mem_of_mem_take hu), Le.right _ _, r1⟩
    have hji : j < i := by
      have := (List.getElem?_eq_some_iff.1 hj).1
      simp only [List.length_take] at this; omega
    rw [List.getElem?_take_of_lt hji] at hj
    have hjl := (List.getElem?_eq_some_iff.1 hj).1
    obtain ⟨c1, c2, c3, c4⟩ := hc j u hj
    exact ⟨c1, c2, .inl ⟨j, hji, hjl, rfl, rfl⟩, fun g => c4 (l1 _ _ g)⟩
  · simp only [Rep]
    refine ⟨ad.add i, xs.drop i, G2, rfl, fun j u hj => ?_, fun u hu => h1 u (List.mem_of_mem_drop hu), Le.right _ _, r2⟩
    rw [List.getElem?_drop] at hj
    have hjl := (List.getElem?_eq_some_iff.1 hj).1
    obtain ⟨c1, c2, c3, c4⟩ := hc (i + j) u hj
    rw [add_add, add_block, add_off]
    refine ⟨c1, c2, .inl ⟨i + j, by omega, hjl, rfl, by omega⟩, fun g => c4 ?_⟩
    have := l2 _ _ g
    rwa [Nat.add_assoc] at this
  · intro b o f g
    rcases f with ⟨j, a1, a2, rfl, rfl⟩ | f
    · rcases g with ⟨k, b1, b2, -, b4⟩ | g
      · omega
      · obtain ⟨-, -, -, c4⟩ := hc j _ (List.getElem?_eq_getElem a2)
        exact c4 (l2 _ _ g)
    · rcases g with ⟨k, b1, b2, rfl, rfl⟩ | g
      · obtain ⟨-, -, -, c4⟩ := hc k _ (List.getElem?_eq_getElem b2)
        exact c4 (l1 _ _ f)
      · exact hd b o f g
  · intro b o f
    rcases f with ⟨j, a1, a2, rfl, rfl⟩ | f
    · exact (hc j _ (List.getElem?_eq_getElem a2)).2.2.1
    · exact hle b o (l1 b o f)
  · intro b o f
    rcases f with ⟨j, a1, a2, rfl, rfl⟩ | f
    · exact (hc j _ (List.getElem?_eq_getElem a2)).2.2.1
    · exact hle b o (l2 b o f)
theorem Rep.join {c1 c2 : List AV} {F1 F2 : Foot} {ad : Addr} (h1 : Rep w Sh KF (.op c1) F1 (.pointer (some ad))) (h2 : Rep w Sh KF (.op c2) F2 (.pointer (some (ad.add c1.length)))) (hd : Disj F1 F2) : Rep w Sh KF (.op (c1 ++ c2)) (Or F1 F2) (.pointer (some ad)) := by
  simp only [Rep] at h1 h2 ⊢
  obtain ⟨a1, xs1, G1, e1, hc1, o1, l1, r1⟩ := h1
  obtain ⟨a2, xs2, G2, e2, hc2, o2, l2, r2⟩ := h2
  cases e1
  cases e2
  have hlen := r1.length
  refine ⟨ad, xs1 ++ xs2, Or G1 G2, rfl, fun j u hj => ?_, fun u hu => ?_, Le.or (l1.trans (Le.left _ _)) (l2.trans (Le.right _ _)), r1.append r2 (hd.le l1 l2)⟩
  · by_cases h : j < xs1.length
    · rw [List.getElem?_append_left h] at hj
      obtain ⟨d1, d2, d3, d4⟩ := hc1 j u hj
      exact ⟨d1, d2, .inl d3, fun g => g.elim d4 fun g => hd _ _ d3 (l2 _ _ g)⟩
    · rw [List.getElem?_append_right (by omega)] at hj
      obtain ⟨d1, d2, d3, d4⟩ := hc2 _ u hj
      have e : c1.length + (j - xs1.length) = j := by omega
      rw [add_add, e] at d1 d2
      rw [add_block, add_off, Nat.add_assoc, e] at d3 d4
      exact ⟨d1, d2, .inr d3, fun g => g.elim (fun g => hd _ _ (l1 _ _ g) d3) d4⟩
  · rcases List.mem_append.1 hu with h | h
    · exact o1 u h
    · exact o2 u h
/-- Exactly what is handed over as one's own. -/
def ER (w : World) (Sh : Foot) (K : Value → AV → Prop) : List Bool → List AV → List Value → Prop
  | true :: ms, a :: as, v :: vs => Rep w Sh K a noF v ∧ ER w Sh K ms as vs
  | _ :: ms, _ :: as, _ :: vs => ER w Sh K ms as vs
  | _, _, _ => True
theorem ER.mono {K K' : Value → AV → Prop} (hK : ∀ v a, K v a → K' v a) : ∀ {ms : List Bool} {as : List AV} {vs : List Value}, ER w Sh K ms as vs → ER w Sh K' ms as vs
  | [], as, vs, h => by simp only [ER]
  | true :: ms, [], vs, h => by simp only [ER]
  | true :: ms, a :: as, [], h => by simp only [ER]
  | true :: ms, a :: as, v :: vs, h => by
    simp only [ER] at h ⊢
    exact ⟨Rep.wider (Le.refl _) hK (Le.refl _) h.1, ER.mono hK h.2⟩
  | false :: ms, [], vs, h => by simp only [ER]
  | false :: ms, a :: as, [], h => by simp only [ER]
  | false :: ms, a :: as, v :: vs, h => by
    simp only [ER] at h ⊢
    exact ER.mono hK h
theorem ER.frame {G : Foot} (k : Keeps G w w') {K K' : Value → AV → Prop} (hS : Disj Sh G) (hSS : Le Sh Sh') (hK : ∀ v a, K v a → K' v a) : ∀ {ms : List Bool} {as : List AV} {vs : List Value}, ER w Sh K ms as vs → ER w' Sh' K' ms as vs
  | [], as, vs, h => by simp only [ER]
  | true :: ms, [], vs, h => by simp only [ER]
  | true :: ms, a :: as, [], h => by simp only [ER]
  | true :: ms, a :: as, v :: vs, h => by
    simp only [ER] at h ⊢
    exact ⟨Rep.frame k hS hSS a hK (Disj.no _) (Le.refl _) h.1, ER.frame k hS hSS hK h.2⟩
  | false :: ms, [], vs, h => by simp only [ER]
  | false :: ms, a :: as, [], h => by simp only [ER]
  | false :: ms, a :: as, v :: vs, h => by
    simp only [ER] at h ⊢
    exact ER.frame k hS hSS hK h
theorem PassL.sound {σe σ σ1 : Nat → AV} {ms : List Bool} {as ts : List AV} (h : PassL σe σ ms as ts σ1) : ∀ {Fs : Nat → Foot} {vs : List Value} {S : List (Nat × List Nat)}, (∀ x ∈ owRefs ms as, x ∈ S) → Inv w Sh Fs V σ → Reps w Sh (KS w V σ) as noF vs →
    ∃ Fs' Ft, Inv w Sh Fs' V σ1 ∧ (∀ r, Le (Fs' r) (Fs r)) ∧ (∀ r, Disj Ft (Fs' r)) ∧ (∀ b o, Ft b o → ∃ r, Fs r b o) ∧ (∀ r q h x, At w (V r) (σ1 r) q h x → ∃ x', At w (V r) (σ r) q h x') ∧ ER w Sh (KE w V σ1 S) ms as vs ∧
      (∀ {Fe : Nat → Foot}, Inv w Sh Fe V σe → (∀ r q h x, At w (V r) (σe r) q h x → ∃ x', At w (V r) (σ1 r) q h x') → Reps w (Or Sh (T Fe)) KF ts Ft vs) ∧
      (roPl ms as = true → Reps w Sh KF ts Ft vs) := by
  induction h with
  | nil σ =>
    intro Fs vs S hS I hr
    simp only [Reps] at hr; subst hr
    exact ⟨Fs, noF, I, fun _ => Le.refl _, fun _ => Disj.no' _, fun _ _ f => f.elim, fun _ _ _ x h => ⟨x, h⟩, by simp only [ER], fun _ _ => by simp [Reps], fun _ => by simp [Reps]⟩
  | @own σ σ1 σ2 a t ms as ts h k ih =>
    intro Fs vs S hS I hr
    simp only [Reps] at hr
    obtain ⟨x, xs', F1, F2, rfl, h1, h2, hd, l1, l2⟩ := hr
    obtain ⟨Fs1, Ft1, j1, j2, j3, j4, j5, j6, j7⟩ := h.sound (S := S) (fun y hy => hS y (by simp [refsL] at hy; simp [owRefs, hy])) I (Reps.one (Rep.wider (Le.refl _) (fun _ _ h => h) l1 h1))
    obtain ⟨v1, ev, j2⟩ := j2.of_one
    cases ev
    obtain ⟨v1, ev, j7⟩ := j7.of_one
    cases ev
    obtain ⟨Fs', Ft, i1, i3, i4, i5, i6, i7, i8, i9⟩ := ih (S := S) (fun y hy => hS y (by simp [owRefs, hy])) j1 (Reps.wider (Le.refl _) (KS.mono j6) l2 h2)
    have hdx : Disj Ft1 Ft := fun b o hx ht => by obtain ⟨t, hh⟩ := i5 b o ht; exact j4 t b o hx hh
    refine ⟨Fs', Or Ft1 Ft, i1, fun t => (i3 t).trans (j3 t), fun t => Disj.or' ((j4 t).le (Le.refl _) (i3 t)) (i4 t), fun b o hh => ?_, fun r q h x hh => ?_, ?_, fun Ie hm => ?_, fun hp => ?_⟩
    · rcases hh with hh | hh
      · exact j5 b o hh
      · obtain ⟨t, ht⟩ := i5 b o hh; exact ⟨t, j3 t b o ht⟩
    · obtain ⟨x1, hx1⟩ := i6 r q h x hh
      exact j6 r q h x1 hx1
    · simp only [ER]
      exact ⟨Rep.wider (Le.refl _) (KE.mono fun r q h x _ hh => i6 r q h x hh) (Le.refl _) j7, i7⟩
    · simp only [Reps]
      exact ⟨_, xs', Ft1, Ft, rfl, Rep.wider (Le.left _ _) (fun _ _ h => h) (Le.refl _) j2, i8 Ie hm, hdx, Le.left _ _, Le.right _ _⟩
    · simp only [Reps]
      exact ⟨_, xs', Ft1, Ft, rfl, j2, i9 (by simpa only [roPl] using hp), hdx, Le.left _ _, Le.right _ _⟩
  | @ro σ σ2 a b ms as ts h k ih =>
    intro Fs vs S hS I hr
    simp only [Reps] at hr
    obtain ⟨x, xs', F1, F2, rfl, h1, h2, hd, l1, l2⟩ := hr
    have h1' := Rep.wider (Le.refl _) (fun _ _ h => h) l1 h1
    obtain ⟨Fs', Ft, i1, i3, i4, i5, i6, i7, i8, i9⟩ := ih (S := S) (fun y hy => hS y (by simpa [owRefs] using hy)) I (Reps.wider (Le.refl _) (fun _ _ h => h) l2 h2)
    refine ⟨Fs', Ft, i1, i3, i4, i5, i6, by simpa only [ER] using i7, fun Ie hm => ?_, fun hp => ?_⟩
    · have := FrzL.sound Ie h (Reps.one (Rep.wider (Le.refl _) (KS.mono fun r q h x hx => by obtain ⟨x1, hx1⟩ := hm r q h x hx; exact i6 r q h x1 hx1) (Le.refl _) h1'))
      obtain ⟨v1, ev, this⟩ := this.of_one
      cases ev
      simp only [Reps]
      exact ⟨_, xs', noF, Ft, rfl, this, i8 Ie hm, Disj.no' _, Le.no _, Le.refl _⟩
    · simp only [roPl, Bool.and_eq_true] at hp
      have hb : [b] = [a] := h.pl (by simp [hp.1])
      cases hb
      have := Reps.plA (xs := [a]) (by simp [hp.1]) (Reps.one h1')
      obtain ⟨v1, ev, this⟩ := this.of_one
      cases ev
      simp only [Reps]
      exact ⟨_, xs', noF, Ft, rfl, this, i9 hp.2, Disj.no' _, Le.no _, Le.refl _⟩
  | @own2 σ σ2 r i p cs ms as ts hn k ih =>
    intro Fs vs S hS I hr
    simp only [Reps] at hr
    obtain ⟨x, xs0, F1, F20, rfl, h1, ⟨y, xs', F2, F3, rfl, h1y, h2, hdy, l1y, l2y⟩, hd, l1, l2⟩ := hr
    obtain ⟨f, u, Fx, Fs1, hf, g1, g2, I1, g3, g4, g5, g6⟩ := I.out hn
    have hat1 : ∀ r' q h x, At w (V r') (setS σ r p .dead r') q h x → ∃ x', At w (V r') (σ r') q h x' := by
      obtain ⟨f, u, Fx, Fr, hf, h1, h2, h3, h4, h5, h6⟩ := I.mod hn
      obtain ⟨I', hat⟩ := h6 (w' := w) (Sh' := Sh) (G := noF) (Fx' := noF) (x' := .dead) (bad := fun _ _ => false) (Keeps.refl _ _) (Disj.no' _) (fun _ _ => Disj.no' _) (Disj.no _) (Le.refl _) (fun t _ => I.shd t) ((I.shd r).le h5 (Le.refl _)) (by simp only [Rep]) (Disj.no' _) (fun _ _ => Disj.no' _) (Disj.no' _) (fun _ _ f => f.elim) I.sbd (fun j t h y _ k => by cases k)
      rw [modS_no] at hat
      exact fun r' q h x k => hat r' q h x rfl k
    obtain ⟨Fs', Ft, i1, i3, i4, i5, i6, i7, i8, i9⟩ := ih (S := S) (fun z hz => hS z (by simp [owRefs, hz])) I1 (Reps.wider (Le.refl _) g6 ((l2y.trans l2)) h2)
    obtain ⟨ad, Fa, Fb, hu, ra, rb, hab, la, lb⟩ := g1.cut i
    have hdx : Disj Fx Ft := fun b o hx ht => by obtain ⟨t, hh⟩ := i5 b o ht; exact g4 t b o hx hh
    simp only [Rep] at h1 h1y
    obtain ⟨a1, e1, e2⟩ := h1.1 _ _ g2
    obtain ⟨a2, e3, e4⟩ := h1y.1 _ _ g2
    subst hu
    have ea1 : a1 = ad := by
      rcases e2 with e2 | ⟨_, _, e2⟩
      · cases e2; rfl
      · cases e2
    have ea2 : a2 = ad := by
      rcases e4 with e4 | ⟨_, _, e4⟩
      · cases e4; rfl
      · cases e4
    subst ea1 ea2
    have hx0 : x = .pointer (some a2) := by rw [e1]; simp [Addr.add]
    subst hx0
    subst e3
    have hat : ∀ r q h x, At w (V r) (σ2 r) q h x → ∃ x', At w (V r) (σ r) q h x' := fun r' q h x hh => by
      obtain ⟨x1, hx1⟩ := i6 r' q h x hh
      exact hat1 r' q h x1 hx1
    have hat2 : ∀ h y, At w (V r) (σ2 r) p h y → h = .pointer (some a2) := fun h y hy => by
      obtain ⟨y', hy'⟩ := hat r p h y hy
      exact (hy'.det g2).1
    refine ⟨Fs', Or Fx Ft, i1, fun t => (i3 t).trans (g3 t), fun t => Disj.or' ((g4 t).le (Le.refl _) (i3 t)) (i4 t), fun b o hh => ?_, hat, ?_, fun Ie hm => ?_, fun hp => ?_⟩
    · rcases hh with hh | hh
      · exact ⟨r, g5 b o hh⟩
      · obtain ⟨t, ht⟩ := i5 b o hh; exact ⟨t, g3 t b o ht⟩
    · simp only [ER, Rep, KE]
      refine ⟨⟨⟨hS _ (by simp [owRefs, refs]), fun h y hy => ⟨fun _ => hat2 h y hy, fun h => absurd rfl h⟩⟩, h1.2⟩, ⟨⟨hS _ (by simp [owRefs, refs]), fun h y hy => ⟨fun e => ?_, fun _ => ⟨a2, hat2 h y hy, rfl⟩⟩⟩, h1y.2⟩, i7⟩
      subst e
      rw [hat2 h y hy]; simp [Addr.add]
    · simp only [Reps]
      exact ⟨_, _, Fa, Or Fb Ft, rfl, Rep.wider (Le.left _ _) (fun _ _ h => h) (Le.refl _) ra, ⟨_, _, Fb, Ft, rfl, Rep.wider (Le.left _ _) (fun _ _ h => h) (Le.refl _) rb, i8 Ie hm, hdx.le lb (Le.refl _), Le.left _ _, Le.right _ _⟩, Disj.or hab (hdx.le la (Le.refl _)), la.trans (Le.left _ _), Le.or (lb.trans (Le.left _ _)) (Le.right _ _)⟩
    · simp only [Reps]
      exact ⟨_, _, Fa, Or Fb Ft, rfl, ra, ⟨_, _, Fb, Ft, rfl, rb, i9 (by simpa only [roPl] using hp), hdx.le lb (Le.refl _), Le.left _ _, Le.right _ _⟩, Disj.or hab (hdx.le la (Le.refl _)), la.trans (Le.left _ _), Le.or (lb.trans (Le.left _ _)) (Le.right _ _)⟩
end
end Go.Eng
/- The engine, part N: calls bear it out. -/
namespace Go.Eng
open Go
set_option linter.unusedVariables false
set_option linter.unusedSimpArgs false
section
variable {P : Program} {w w' : World} {Sh Sh' : Foot} {Fs : Nat → Foot} {V : Nat → Value} {σ : Nat → AV} {a : Act} {o : Oper} {N : Nat}

mutual
theorem Rep.noIm : ∀ (a : AV) {K : Value → AV → Prop} {F : Foot} {v : Value}, Eng.noIm a = true → Rep w Sh K a F v → Rep w Sh' K a F v
  | .sc u, _, _, _, _, h => by simpa only [Rep] using h
  | .nl, _, _, _, _, h => by simpa only [Rep] using h
  | .dead, _, _, _, _, h => by simp only [Rep]
  | .vw .., _, _, _, _, h => by simpa only [Rep] using h
  | .ad .., _, _, _, _, h => by simpa only [Rep] using h
  | .ip cs, _, _, _, hn, h => by simp [Eng.noIm] at hn
  | .im n cs, _, _, _, hn, h => by
    simp only [Eng.noIm, List.isEmpty_iff] at hn
    subst hn
    simp only [Rep, Reps] at h ⊢
    obtain ⟨A, cap, xs, rfl, hn, hc, h1, rfl⟩ := h
    exact ⟨A, cap, [], rfl, hn, fun h => absurd rfl h, h1, rfl⟩
  | .ow e sz n cs, _, _, _, hn, h => by
    simp only [Eng.noIm] at hn
    simp only [Rep] at h ⊢
    obtain ⟨xs, G, ho, hz, hg, h1, hle, hr⟩ := h
    exact ⟨xs, G, ho, hz, hg, h1, hle, Reps.noIm cs hn hr⟩
  | .op cs, _, _, _, hn, h => by
    simp only [Eng.noIm] at hn
    simp only [Rep] at h ⊢
    obtain ⟨ad, xs, G, e, hc, h1, hle, hr⟩ := h
    exact ⟨ad, xs, G, e, hc, h1, hle, Reps.noIm cs hn hr⟩
  | .ag cs, _, _, _, hn, h => by
    simp only [Eng.noIm] at hn
    simp only [Rep] at h ⊢
    obtain ⟨xs, e, h1, hr⟩ := h
    exact ⟨xs, e, h1, Reps.noIm cs hn hr⟩
  | .tu cs, _, _, _, hn, h => by
    simp only [Eng.noIm] at hn
    simp only [Rep] at h ⊢
    obtain ⟨xs, e, hr⟩ := h
    exact ⟨xs, e, Reps.noIm cs hn hr⟩
theorem Reps.noIm : ∀ (cs : List AV) {K : Value → AV → Prop} {F : Foot} {xs : List Value}, noImL cs = true → Reps w Sh K cs F xs → Reps w Sh' K cs F xs
  | [], _, _, _, _, h => by simpa only [Reps] using h
  | c :: cs, _, _, _, hn, h => by
    simp only [noImL, Bool.and_eq_true] at hn
    simp only [Reps] at h ⊢
    obtain ⟨x, xs', F1, F2, e, h1, h2, hd, l1, l2⟩ := h
    exact ⟨x, xs', F1, F2, e, Rep.noIm c hn.1 h1, Reps.noIm cs hn.2 h2, hd, l1, l2⟩
end

theorem ER.all {K : Value → AV → Prop} : ∀ {cs : List AV} {F : Foot} {xs : List Value}, Reps w Sh K cs noF xs → ER w Sh K (List.replicate cs.length true) cs xs
  | [], F, xs, h => by simp only [List.length_nil, List.replicate_zero, ER]
  | c :: cs, F, xs, h => by
    simp only [Reps] at h
    obtain ⟨x, xs', F1, F2, rfl, h1, h2, hd, l1, l2⟩ := h
    simp only [List.length_cons, List.replicate_succ, ER]
    exact ⟨Rep.wider (Le.refl _) (fun _ _ h => h) l1 h1, ER.all (F := noF) (Reps.wider (Le.refl _) (fun _ _ h => h) l2 h2)⟩
theorem isU_under (r : Nat) (p : List Nat) (j : Nat) (t : List Nat) : isU r p r (p ++ j :: t) = true := by
  simp [isU]

theorem BackL.sound {σ σ' : Nat → AV} {ms : List Bool} {as ts : List AV} {S : List (Nat × List Nat)} (hS : stab S = true) (h : BackL σ ms as ts σ') : ∀ {Fs : Nat → Foot} {Ft : Foot} {vs : List Value}, Inv w Sh Fs V σ → Reps w Sh KF ts Ft vs → ER w Sh (KE w V σ S) ms as vs → (∀ t, Disj Ft (Fs t)) → Disj Ft Sh → Bd w Ft →
    ∃ Fs', Inv w Sh Fs' V σ' ∧ (∀ b o, T Fs' b o → T Fs b o ∨ Ft b o) ∧ (∀ r q h x, (r, q) ∈ S → At w (V r) (σ' r) q h x → ∃ x', At w (V r) (σ r) q h x') := by
  have hst : ∀ x ∈ S, ∀ y ∈ S, isU x.1 x.2 y.1 y.2 = false := by
    intro x hx y hy
    have := List.all_eq_true.1 (List.all_eq_true.1 hS x hx) y hy
    simpa using this
  induction h with
  | nil σ => intro Fs Ft vs I hr he hd hs hb; exact ⟨Fs, I, fun _ _ h => .inl h, fun _ _ _ x _ h => ⟨x, h⟩⟩
  | @skip σ σ' a t m ms as ts k ih =>
    intro Fs Ft vs I hr he hd hs hb
    simp only [Reps] at hr
    obtain ⟨x, xs', F1, F2, rfl, h1, h2, hdd, l1, l2⟩ := hr
    have he' : ER w Sh (KE w V σ S) ms as xs' := by cases m <;> simp only [ER] at he <;> first | exact he | exact he.2
    obtain ⟨Fs', i1, i2, i3⟩ := ih I h2 he' (fun t => (hd t).le l2 (Le.refl _)) (hs.le l2 (Le.refl _)) (fun b o f => hb b o (l2 b o f))
    exact ⟨Fs', i1, fun b o f => (i2 b o f).imp id (l2 b o), i3⟩
  | @vw σ σ' r n p t ms as ts hn k ih =>
    intro Fs Ft vs I hr he hd hs hb
    simp only [Reps] at hr
    obtain ⟨x, xs', F1, F2, rfl, h1, h2, hdd, l1, l2⟩ := hr
    simp only [ER, Rep, KE] at he
    obtain ⟨⟨⟨hmem, hex⟩, -⟩, he⟩ := he
    obtain ⟨f, u, Fx, Fr, hf, g1, g2, g3, g4, g5, g6⟩ := I.mod hn
    have hux : u = x := hex _ _ g2
    subst hux
    obtain ⟨I', hat⟩ := g6 (w' := w) (Sh' := Sh) (G := noF) (Fx' := F1) (x' := t) (bad := isU r p) (Keeps.refl _ _) (Disj.no' _) (fun _ _ => Disj.no' _) (Disj.no _) (Le.refl _) (fun t _ => I.shd t) ((I.shd r).le g5 (Le.refl _)) h1 ((hd r).le l1 g5) (fun t _ => (hd t).le l1 (Le.refl _)) (hs.le l1 (Le.refl _)) (fun b o f => hb b o (l1 b o f)) I.sbd (fun j t h y hbad _ => by rw [isU_under] at hbad; cases hbad)
    have hat' : ∀ r' q h x, (r', q) ∈ S → At w (V r') (modS σ r p (isU r p) t r') q h x → ∃ x', At w (V r') (σ r') q h x' := fun r' q h x hm hx => hat r' q h x (hst _ hmem _ hm) hx
    obtain ⟨Fs', i1, i2, i3⟩ := ih I' h2 (he.mono (KE.mono hat')) (fun t' => by
      by_cases e : t' = r
      · subst e; rw [upd_same]; exact Disj.or ((hd t').le l2 g5) hdd.symm
      · rw [upd_ne _ _ _ e]; exact (hd t').le l2 (Le.refl _)) (hs.le l2 (Le.refl _)) (fun b o f => hb b o (l2 b o f))
    refine ⟨Fs', i1, fun b o f => ?_, fun r' q h x hm hx => ?_⟩
    · rcases i2 b o f with ⟨t', f⟩ | f
      · by_cases e : t' = r
        · subst e; rw [upd_same] at f
          exact f.elim (fun f => .inl ⟨t', g5 b o f⟩) (fun f => .inr (l1 b o f))
        · rw [upd_ne _ _ _ e] at f; exact .inl ⟨t', f⟩
      · exact .inr (l2 b o f)
    · obtain ⟨x1, hx1⟩ := i3 r' q h x hm hx
      exact hat' r' q h x1 hm hx1
  | @ad σ σ' r p t ms as ts hn k ih =>
    intro Fs Ft vs I hr he hd hs hb
    simp only [Reps] at hr
    obtain ⟨x, xs', F1, F2, rfl, h1, h2, hdd, l1, l2⟩ := hr
    simp only [ER, Rep, KE] at he
    obtain ⟨⟨⟨hmem, hex⟩, -⟩, he⟩ := he
    obtain ⟨f, u, Fx, Fr, hf, g1, g2, g3, g4, g5, g6⟩ := I.mod hn
    have hux : u = x := (hex _ _ g2).1 trivial
    subst hux
    obtain ⟨I', hat⟩ := g6 (w' := w) (Sh' := Sh) (G := noF) (Fx' := F1) (x' := t) (bad := isU r p) (Keeps.refl _ _) (Disj.no' _) (fun _ _ => Disj.no' _) (Disj.no _) (Le.refl _) (fun t _ => I.shd t) ((I.shd r).le g5 (Le.refl _)) h1 ((hd r).le l1 g5) (fun t _ => (hd t).le l1 (Le.refl _)) (hs.le l1 (Le.refl _)) (fun b o f => hb b o (l1 b o f)) I.sbd (fun j t h y hbad _ => by rw [isU_under] at hbad; cases hbad)
    have hat' : ∀ r' q h x, (r', q) ∈ S → At w (V r') (modS σ r p (isU r p) t r') q h x → ∃ x', At w (V r') (σ r') q h x' := fun r' q h x hm hx => hat r' q h x (hst _ hmem _ hm) hx
    obtain ⟨Fs', i1, i2, i3⟩ := ih I' h2 (he.mono (KE.mono hat')) (fun t' => by
      by_cases e : t' = r
      · subst e; rw [upd_same]; exact Disj.or ((hd t').le l2 g5) hdd.symm
      · rw [upd_ne _ _ _ e]; exact (hd t').le l2 (Le.refl _)) (hs.le l2 (Le.refl _)) (fun b o f => hb b o (l2 b o f))
    refine ⟨Fs', i1, fun b o f => ?_, fun r' q h x hm hx => ?_⟩
    · rcases i2 b o f with ⟨t', f⟩ | f
      · by_cases e : t' = r
        · subst e; rw [upd_same] at f
          exact f.elim (fun f => .inl ⟨t', g5 b o f⟩) (fun f => .inr (l1 b o f))
        · rw [upd_ne _ _ _ e] at f; exact .inl ⟨t', f⟩
      · exact .inr (l2 b o f)
    · obtain ⟨x1, hx1⟩ := i3 r' q h x hm hx
      exact hat' r' q h x1 hm hx1
  | @ag σ σ1 σ' cs ds ms as ts h k ih1 ih2 =>
    intro Fs Ft vs I hr he hd hs hb
    simp only [Reps] at hr
    obtain ⟨x, xs', F1, F2, rfl, h1, h2, hdd, l1, l2⟩ := hr
    simp only [ER, Rep] at he
    simp only [Rep] at h1
    obtain ⟨ys, rfl, h1a, h1b⟩ := h1
    obtain ⟨⟨ys', e, -, heb⟩, he⟩ := he
    cases e
    obtain ⟨Fs1, j1, j2, j3⟩ := ih1 I h1b (ER.all (F := noF) heb) (fun t => (hd t).le l1 (Le.refl _)) (hs.le l1 (Le.refl _)) (fun b o f => hb b o (l1 b o f))
    obtain ⟨Fs', i1, i2, i3⟩ := ih2 j1 h2 (he.mono (KE.mono j3)) (fun t b o f g => by
      rcases j2 b o ⟨t, g⟩ with ⟨t', g⟩ | g
      · exact hd t' b o (l2 b o f) g
      · exact hdd b o g f) (hs.le l2 (Le.refl _)) (fun b o f => hb b o (l2 b o f))
    refine ⟨Fs', i1, fun b o f => ?_, fun r' q h x hm hx => ?_⟩
    · rcases i2 b o f with f | f
      · exact (j2 b o f).imp id (l1 b o)
      · exact .inr (l2 b o f)
    · obtain ⟨x1, hx1⟩ := i3 r' q h x hm hx
      exact j3 r' q h x1 hm hx1
  | @ad2 σ σ' r i p d1 d2 ms as ts hn hi k ih =>
    intro Fs Ft vs I hr he hd hs hb
    simp only [Reps] at hr
    obtain ⟨x, xs0, F1, F20, rfl, h1, ⟨y, xs', F2, F3, rfl, h1y, h2, hdy, l1y, l2y⟩, hdd0, l1, l20⟩ := hr
    simp only [ER, Rep, KE] at he
    obtain ⟨⟨⟨hmem, hex⟩, -⟩, ⟨⟨-, hey⟩, -⟩, he⟩ := he
    obtain ⟨f, u, Fx, Fr, hf, g1, g2, g3, g4, g5, g6⟩ := I.mod hn
    have hux : u = x := (hex _ _ g2).1 trivial
    subst hux
    obtain ⟨ad, hu⟩ : ∃ ad, u = .pointer (some ad) := by
      have h1' := h1
      simp only [Rep] at h1'
      obtain ⟨ad, _, _, rfl, -⟩ := h1'
      exact ⟨ad, rfl⟩
    subst hu
    have hy : y = .pointer (some (ad.add i)) := by
      by_cases e : i = 0
      · subst e
        have := (hey _ _ g2).1 rfl
        rw [← this]; simp [Addr.add]
      · obtain ⟨a', e1, e2⟩ := (hey _ _ g2).2 e
        cases e1; exact e2
    subst hy
    subst hi
    have hj := Rep.join h1 h1y (hdd0.le (Le.refl _) l1y)
    have lj : Le (Or F1 F2) Ft := Le.or l1 (l1y.trans l20)
    have l2 : Le F3 Ft := l2y.trans l20
    have hdd : Disj (Or F1 F2) F3 := Disj.or' (hdd0.le (Le.refl _) l2y) hdy
    obtain ⟨I', hat⟩ := g6 (w' := w) (Sh' := Sh) (G := noF) (Fx' := Or F1 F2) (x' := .op (d1 ++ d2)) (bad := isU r p) (Keeps.refl _ _) (Disj.no' _) (fun _ _ => Disj.no' _) (Disj.no _) (Le.refl _) (fun t _ => I.shd t) ((I.shd r).le g5 (Le.refl _)) hj ((hd r).le lj g5) (fun t _ => (hd t).le lj (Le.refl _)) (hs.le lj (Le.refl _)) (fun b o f => hb b o (lj b o f)) I.sbd (fun j t h y hbad _ => by rw [isU_under] at hbad; cases hbad)
    have hat' : ∀ r' q h x, (r', q) ∈ S → At w (V r') (modS σ r p (isU r p) (.op (d1 ++ d2)) r') q h x → ∃ x', At w (V r') (σ r') q h x' := fun r' q h x hm hx => hat r' q h x (hst _ hmem _ hm) hx
    obtain ⟨Fs', i1, i2, i3⟩ := ih I' h2 (he.mono (KE.mono hat')) (fun t' => by
      by_cases e : t' = r
      · subst e; rw [upd_same]; exact Disj.or ((hd t').le l2 g5) hdd.symm
      · rw [upd_ne _ _ _ e]; exact (hd t').le l2 (Le.refl _)) (hs.le l2 (Le.refl _)) (fun b o f => hb b o (l2 b o f))
    refine ⟨Fs', i1, fun b o f => ?_, fun r' q h x hm hx => ?_⟩
    · rcases i2 b o f with ⟨t', f⟩ | f
      · by_cases e : t' = r
        · subst e; rw [upd_same] at f
          exact f.elim (fun f => .inl ⟨t', g5 b o f⟩) (fun f => .inr (lj b o f))
        · rw [upd_ne _ _ _ e] at f; exact .inl ⟨t', f⟩
      · exact .inr (l2 b o f)
    · obtain ⟨x1, hx1⟩ := i3 r' q h x hm hx
      exact hat' r' q h x1 hm hx1

theorem run_call {f : FuncId} {xs : Array Operand} {ts : Array TypeId} {F : Func} {c : Code} (ho : o.op = .call { callee := .value (.func f), args := xs, argTypes := ts }) (hF : P.funcs[f]? = some F) (hc : F.body = some c) (hnm : (F.name == "runtime.NumGoroutine") = false) (w : World) :
    (execOp a.eval o).run P w = .ok (.enter f (xs.map a.eval)) w := by
  have hnm' : ¬ F.name = "runtime.NumGoroutine" := by simpa using hnm
  simp [execOp, ho, resolve, Act.eval, Deferred.ofValue, invoke, callFunc, hF, hnm', hc]
theorem reps_ovs (I : Inv w Sh Fs V σ) (hC : Ctx N V a) (xs : Array Operand) : Reps w Sh (KS w V σ) (xs.toList.map (ov σ)) noF (xs.map a.eval).toList := by
  rw [Array.toList_map]
  generalize xs.toList = l
  induction l with
  | nil => simp [Reps]
  | cons x l ih =>
    simp only [List.map_cons, Reps]
    exact ⟨_, _, noF, noF, rfl, I.ov hC.va x, ih, Disj.no _, Le.refl _, Le.refl _⟩
theorem upon_call {f : FuncId} {xs : Array Operand} {ts : Array TypeId} {F : Func} {c : Code} (ho : o.op = .call { callee := .value (.func f), args := xs, argTypes := ts }) (hF : P.funcs[f]? = some F) (hc : F.body = some c) (hnm : (F.name == "runtime.NumGoroutine") = false) {next : Act → World → Prop} {Q : Exit → Act → World → Prop} {R : Ending → World → Prop}
    (h : Calls P f (xs.map a.eval) w R) (k : ∀ e w', R e w' → ∃ v, e = .returned v ∧ next (a.put o.dst v) w') : o.wp P a w next Q := by
  unfold Oper.wp
  rw [run_call ho hF hc hnm w]
  exact h.mono fun e w' hR => by
    obtain ⟨v, rfl, hk⟩ := k e w' hR
    exact hk
theorem s_qcall {f : FuncId} {xs : Array Operand} {ts : Array TypeId} {args fin : List AV} {res : AV} (ho : o.op = .call { callee := .value (.func f), args := xs, argTypes := ts })
    (ha : FrzL σ (xs.toList.map (ov σ)) args) (hf : SFn P f args res fin) (hn : noIm res = true ∨ (xs.toList.map (ov σ)).all isPlA = true) : SQe P o σ res := by
  intro N w Sh Fs V a I hC next Q hnx
  obtain ⟨⟨F, c, hF, hc, hnm⟩, hcall⟩ := hf
  have hvs := reps_ovs I hC xs
  rcases hn with hn | hn
  · have hargs := ha.sound I hvs
    have := hcall w (Or Sh (T Fs)) noF (xs.map a.eval).toList hargs (Disj.no' _) (fun _ _ f => f.elim) (fun b o f => f.elim (I.sbd b o) (fun f => I.tbd b o f))
    rw [Array.toArray_toList] at this
    refine upon_call ho hF hc hnm this fun e w' hR => ?_
    obtain ⟨v, Sh', F', rfl, hr, hE, hd, hb1, hb2⟩ := hR
    simp only [Reps] at hr
    obtain ⟨x, xs', F1, F2, ex, h1, h2, hdd, l1, l2⟩ := hr
    cases ex
    have hnew : ∀ b o, F1 b o → w.heap.size ≤ b := fun b o f => by
      rcases hE.own b o (l1 b o f) with g | g
      · exact g.elim
      · exact g
    refine ⟨v, rfl, hnx v w' Sh F1 hE.keeps (Le.refl _) (fun b o f => .inl f) (fun b o f => Nat.lt_of_lt_of_le (I.sbd b o f) hE.keeps.size) (Rep.wider (Le.refl _) (fun _ _ h => h.elim) (Le.refl _) (Rep.noIm res hn h1)) (fun b o f => ⟨hnew b o f, hb1 b o (l1 b o f)⟩) (fun b o f s => ?_)⟩
    have := hnew b o f
    have := I.sbd b o s
    omega
  · have hargs : Reps w Sh KF args noF (xs.map a.eval).toList := by rw [ha.pl hn]; exact hvs.plA hn
    have := hcall w Sh noF (xs.map a.eval).toList hargs (Disj.no' _) (fun _ _ f => f.elim) I.sbd
    rw [Array.toArray_toList] at this
    refine upon_call ho hF hc hnm this fun e w' hR => ?_
    obtain ⟨v, Sh', F', rfl, hr, hE, hd, hb1, hb2⟩ := hR
    simp only [Reps] at hr
    obtain ⟨x, xs', F1, F2, ex, h1, h2, hdd, l1, l2⟩ := hr
    cases ex
    have hnew : ∀ b o, F1 b o → w.heap.size ≤ b := fun b o f => by
      rcases hE.own b o (l1 b o f) with g | g
      · exact g.elim
      · exact g
    refine ⟨v, rfl, hnx v w' Sh' F1 hE.keeps hE.sh (fun b o f => ?_) hb2 (Rep.wider (Le.refl _) (fun _ _ h => h.elim) (Le.refl _) h1) (fun b o f => ⟨hnew b o f, hb1 b o (l1 b o f)⟩) (hd.le l1 (Le.refl _))⟩
    rcases hE.new b o f with g | g | g
    · exact .inl g
    · exact g.elim
    · exact .inr g

/-- What was only read comes back as nothing. -/
def owOnly : List Bool → List AV → List AV
  | true :: ms, t :: ts => t :: owOnly ms ts
  | _ :: ms, _ :: ts => .dead :: owOnly ms ts
  | _, ts => ts.map fun _ => .dead
theorem Reps.owOnly : ∀ {ms : List Bool} {ts : List AV} {F : Foot} {vs : List Value}, owNo ms ts = true → Reps w Sh KF ts F vs → Reps w Sh' KF (Eng.owOnly ms ts) F vs
  | [], [], F, vs, hn, h => by simpa only [Eng.owOnly, List.map_nil, Reps] using h
  | [], t :: ts, F, vs, hn, h => by
    simp only [Reps] at h
    obtain ⟨x, xs', F1, F2, e, h1, h2, hd, l1, l2⟩ := h
    have := Reps.owOnly (ms := []) (by cases ts <;> rfl) h2
    simp only [Eng.owOnly, List.map_cons, Reps] at this ⊢
    exact ⟨x, xs', F1, F2, e, by simp only [Rep], this, hd, l1, l2⟩
  | true :: ms, [], F, vs, hn, h => by simpa only [Eng.owOnly, List.map_nil, Reps] using h
  | false :: ms, [], F, vs, hn, h => by simpa only [Eng.owOnly, List.map_nil, Reps] using h
  | true :: ms, t :: ts, F, vs, hn, h => by
    simp only [owNo, Bool.and_eq_true] at hn
    simp only [Reps] at h
    obtain ⟨x, xs', F1, F2, e, h1, h2, hd, l1, l2⟩ := h
    simp only [Eng.owOnly, Reps]
    exact ⟨x, xs', F1, F2, e, Rep.noIm t hn.1 h1, h2.owOnly hn.2, hd, l1, l2⟩
  | false :: ms, t :: ts, F, vs, hn, h => by
    simp only [owNo] at hn
    simp only [Reps] at h
    obtain ⟨x, xs', F1, F2, e, h1, h2, hd, l1, l2⟩ := h
    simp only [Eng.owOnly, Reps]
    exact ⟨x, xs', F1, F2, e, by simp only [Rep], h2.owOnly hn, hd, l1, l2⟩
theorem BackL.owOnly {σ σ' : Nat → AV} {ms : List Bool} {as ts : List AV} (h : BackL σ ms as ts σ') : BackL σ ms as (Eng.owOnly ms ts) σ' := by
  induction h with
  | nil σ => exact .nil σ
  | @skip σ σ' a t m ms as ts k ih => cases m <;> exact .skip ih
  | vw hn k ih => exact .vw hn ih
  | ad hn k ih => exact .ad hn ih
  | ag h k ih1 ih2 => exact .ag h ih2
  | ad2 hn hi k ih => exact .ad2 hn hi ih
theorem s_call {σ1 σ2 : Nat → AV} {f : FuncId} {xs : Array Operand} {ts : Array TypeId} {ms : List Bool} {args fin : List AV} {res : AV} (ho : o.op = .call { callee := .value (.func f), args := xs, argTypes := ts })
    (hp : PassL σ1 σ ms (xs.toList.map (ov σ)) args σ1) (hf : SFn P f args res fin) (hn : (noIm res = true ∧ owNo ms fin = true) ∨ roPl ms (xs.toList.map (ov σ)) = true) (hs : stab (owRefs ms (xs.toList.map (ov σ))) = true) (hb : BackL σ1 ms (xs.toList.map (ov σ)) fin σ2) : SOp P o σ (putD σ2 o.dst res) := by
  intro N w Sh Fs V a I hC hdk next Q hnx
  obtain ⟨⟨F, c, hF, hc, hnm⟩, hcall⟩ := hf
  have hvs := reps_ovs I hC xs
  obtain ⟨Fs1, Ft, I1, i3, i4, i5, i6, i7, i8, i9⟩ := hp.sound (S := owRefs ms (xs.toList.map (ov σ))) (fun x hx => hx) I hvs
  have hbt : Bd w Ft := fun b o f => by obtain ⟨r, g⟩ := i5 b o f; exact I.bnd r b o g
  have hst : Disj Ft Sh := fun b o f s => by obtain ⟨r, g⟩ := i5 b o f; exact I.shd r b o g s
  have hsub : Le (T Fs1) (T Fs) := fun b o ⟨r, f⟩ => ⟨r, i3 r b o f⟩
  have hsubt : Le Ft (T Fs) := i5
  -- behind the call: what came back, in terms of what is read here
  have fin_ : ∀ (v : Value) (w' : World) (Sh' F' : Foot) (fin' : List AV), BackL σ1 ms (xs.toList.map (ov σ)) fin' σ2 → Reps w' Sh' KF (res :: fin') F' (v :: (xs.map a.eval).toList) → Keeps Ft w w' → Le Sh Sh' → (∀ b o, Sh' b o → Sh b o ∨ Ft b o ∨ w.heap.size ≤ b) → (∀ b o, F' b o → Ft b o ∨ w.heap.size ≤ b) → Disj F' Sh' → Bd w' F' → Bd w' Sh' → next (a.put o.dst v) w' := by
    intro v w' Sh' F' fin' hb hr hk hSS hnew hown hd hb1 hb2
    have hF1 : ∀ t, Disj F' (Fs1 t) := fun t b o f g => by
      rcases hown b o f with h | h
      · exact i4 t b o h g
      · exact absurd (I1.bnd t b o g) (by omega)
    have hs1 : ∀ t, Disj (Fs1 t) Sh' := fun t b o f g => by
      rcases hnew b o g with h | h | h
      · exact I1.shd t b o f h
      · exact i4 t b o h f
      · exact absurd (I1.bnd t b o f) (by omega)
    have I1' : Inv w' Sh' Fs1 V σ1 := I1.frame hk i4 hst.symm hSS hs1 hb2
    simp only [Reps] at hr
    obtain ⟨x, xs', F1, F2, ex, h1, h2, hdd, l1, l2⟩ := hr
    cases ex
    have hER : ER w' Sh' (KE w' V σ1 (owRefs ms (xs.toList.map (ov σ)))) ms (xs.toList.map (ov σ)) (xs.map a.eval).toList :=
      i7.frame hk hst.symm hSS (KE.mono fun r q h x _ hx => ⟨x, hx.frame hk (I1.rep r) (i4 r)⟩)
    obtain ⟨Fs2, I2, j2, -⟩ := hb.sound hs I1' h2 hER (fun t => (hF1 t).le l2 (Le.refl _)) (hd.le l2 (Le.refl _)) (fun b o f => hb1 b o (l2 b o f))
    have hF1' : ∀ t, Disj F1 (Fs2 t) := fun t b o f g => by
      rcases j2 b o ⟨t, g⟩ with ⟨t', g⟩ | g
      · exact hF1 t' b o (l1 b o f) g
      · exact hdd b o f g
    obtain ⟨Fs', V', k1, k2, k3, k4⟩ := land (o := o) (av := res) (v := v) (Sh' := Sh') (Fd := F1) I2 hC hdk (F0 := F1) (Keeps.refl noF w') (fun _ => Disj.no' _) (Disj.no _) (Le.refl _) (fun b o f => .inl f) hb2 (Rep.wider (Le.refl _) (fun _ _ h => h.elim) (Le.refl _) h1) (fun b o f => ⟨.inl f, hb1 b o (l1 b o f)⟩) (hd.le l1 (Le.refl _)) hF1' (fun _ _ _ f => f.elim)
    refine hnx _ _ _ _ _ k1 k2 (put_defers _ _ _) k3 ?_
    have hall : ∀ b o, T Fs2 b o ∨ F1 b o → T Fs b o ∨ w.heap.size ≤ b := by
      intro b o f
      rcases f with f | f
      · rcases j2 b o f with g | g
        · exact .inl (hsub b o g)
        · exact (hown b o (l2 b o g)).imp (hsubt b o) id
      · exact (hown b o (l1 b o f)).imp (hsubt b o) id
    have hE1 : Ext w Sh (T Fs) w' Sh' (Or (T Fs2) F1) := ⟨hk.mono hsubt, hSS, fun b o f => by
      rcases hnew b o f with g | g | g
      · exact .inl g
      · exact .inr (.inl (hsubt b o g))
      · exact .inr (.inr g), fun b o f => hall b o f⟩
    exact hE1.trans k4
  rcases hn with ⟨hn1, hn2⟩ | hn
  · have hargs := i8 I1 (fun _ _ _ x h => ⟨x, h⟩)
    have := hcall w (Or Sh (T Fs1)) Ft (xs.map a.eval).toList hargs (Disj.or hst (fun b o f ⟨t, g⟩ => i4 t b o f g)) hbt (fun b o f => f.elim (I.sbd b o) (fun f => I1.tbd b o f))
    rw [Array.toArray_toList] at this
    refine upon_call ho hF hc hnm this fun e w' hR => ?_
    obtain ⟨v, Sh', F', rfl, hr, hE, hd, hb1, hb2⟩ := hR
    have hSS' : Le Sh Sh' := (Le.left _ _).trans hE.sh
    refine ⟨v, rfl, fin_ v w' Sh F' (owOnly ms fin) hb.owOnly ?_ hE.keeps (Le.refl _) (fun b o f => .inl f) (fun b o f => hE.own b o f) (hd.le (Le.refl _) hSS') hb1 (fun b o f => Nat.lt_of_lt_of_le (I.sbd b o f) hE.keeps.size)⟩
    simp only [Reps] at hr ⊢
    obtain ⟨x, xs', F1, F2, ex, h1, h2, hdd, l1, l2⟩ := hr
    exact ⟨x, xs', F1, F2, ex, Rep.noIm res hn1 h1, h2.owOnly hn2, hdd, l1, l2⟩
  · have hargs := i9 hn
    have := hcall w Sh Ft (xs.map a.eval).toList hargs hst hbt I.sbd
    rw [Array.toArray_toList] at this
    refine upon_call ho hF hc hnm this fun e w' hR => ?_
    obtain ⟨v, Sh', F', rfl, hr, hE, hd, hb1, hb2⟩ := hR
    exact ⟨v, rfl, fin_ v w' Sh' F' fin hb hr hE.keeps hE.sh hE.new hE.own hd hb1 hb2⟩
end
end Go.Eng
/- The engine, part O: drawn regions: whatever the order, it comes to the same. -/
namespace Go.Eng
open Go
set_option linter.unusedVariables false
set_option linter.unusedSimpArgs false
section
variable {P : Program} {w w' : World} {Sh Sh' : Foot} {Fs : Nat → Foot} {V : Nat → Value} {σ : Nat → AV} {a : Act} {o : Oper} {N : Nat}

theorem goes_sound (I : Inv w Sh Fs V σ) (hC : Ctx N V a) {all : Array Oper} {b : Bool} (h : goes all σ o = some b) : Region.wanted o (yielded all a.tmps) = b := by
  unfold goes at h
  unfold Region.wanted
  cases hg : o.guard with
  | none => simp only [hg, Option.some.injEq] at h; exact h
  | some jw =>
    obtain ⟨j, want⟩ := jw
    simp only [hg] at h ⊢
    cases hd : dstOf all j with
    | none => simp [hd] at h
    | some d =>
      simp only [hd] at h
      cases hlt : Nat.blt d HB
      · simp [hlt] at h
      · simp only [hlt, cond_true] at h
        replace hlt : d < HB := Nat.blt_eq ▸ hlt
        split at h
        · rename_i b' hσ
          cases h
          have hr := I.rep d
          rw [hσ] at hr
          simp only [Rep] at hr
          have hv := hr.1
          rw [hC.va d hlt] at hv
          have hsome : a.tmps[d]? = some (.bool b') := by
            rw [Array.getD_eq_getD_getElem?] at hv
            cases hx : a.tmps[d]? with
            | none => rw [hx] at hv; simp [undef] at hv
            | some y => rw [hx] at hv; simp at hv; rw [hv]
          have hy : yielded all a.tmps j = some b' := by
            unfold yielded
            unfold dstOf at hd
            rw [hd]
            simp [hsome]
          rw [hy]
          simp
        · rename_i hσ
          cases h
          have hr := I.rep d
          rw [hσ] at hr
          simp only [Rep] at hr
          obtain ⟨xs, hv, -⟩ := hr
          rw [hC.va d hlt] at hv
          have hy : yielded all a.tmps j = none := by
            unfold yielded
            unfold dstOf at hd
            rw [hd]
            rw [Array.getD_eq_getD_getElem?] at hv
            cases hx : a.tmps[d]? with
            | none => simp [hx]
            | some y => rw [hx] at hv; simp at hv; subst hv; simp [hx]
          rw [hy]; rfl
        · cases h
theorem Nxt.trans {σ2 : Nat → AV} {Fs1 : Nat → Foot} {V1 : Nat → Value} {a1 : Act} {w1 : World} {Sh1 : Foot} {K : Act → World → Prop} (h : Nxt N w Sh Fs V a σ2 K) (hd : a1.defers = a.defers) (hV : ∀ t, HB ≤ t → V1 t = V t) (hE : Ext w Sh (T Fs) w1 Sh1 (T Fs1)) : Nxt N w1 Sh1 Fs1 V1 a1 σ2 K :=
  fun a' w' Sh' Fs' V' i1 i2 i3 i4 i5 => h a' w' Sh' Fs' V' i1 i2 (i3.trans hd) (fun t ht => (i4 t ht).trans (hV t ht)) (hE.trans i5)
theorem Nxt.here {K : Act → World → Prop} (h : Nxt N w Sh Fs V a σ K) (I : Inv w Sh Fs V σ) (hC : Ctx N V a) : K a w :=
  h a w Sh Fs V I hC rfl (fun _ _ => rfl) (Ext.refl _ _ _)
/-- An operation that is passed over. -/
theorem skip_put (I : Inv w Sh Fs V σ) (hC : Ctx N V a) (hd : dok N o = true) {K : Act → World → Prop} (hn : Nxt N w Sh Fs V a (putD σ o.dst .dead) K) : K (a.put o.dst undef) w := by
  obtain ⟨Fs', V', i1, i2, i3, i4⟩ := land (o := o) (av := .dead) (v := undef) (Sh' := Sh) (Fd := noF) I hC hd (F0 := noF) (Keeps.refl noF w) (fun _ => Disj.no' _) (Disj.no _) (Le.refl _) (fun b o f => .inl f) I.sbd (by simp only [Rep]) (fun _ _ f => f.elim) (Disj.no' _) (fun _ => Disj.no' _) (fun _ _ _ f => f.elim)
  refine hn _ _ _ _ _ i1 i2 (put_defers _ _ _) i3 ⟨i4.keeps.mono (Le.or (Le.refl _) (Le.no _)), i4.sh, fun b o f => ?_, fun b o f => ?_⟩
  · rcases i4.new b o f with g | (g | g) | g
    · exact .inl g
    · exact .inr (.inl g)
    · exact g.elim
    · exact .inr (.inr g)
  · rcases i4.own b o f with (g | g) | g
    · exact .inl g
    · exact g.elim
    · exact .inr g

theorem skip_putT (I : Inv w Sh Fs V σ) (hC : Ctx N V a) (hd : dok N o = true) {K : Act → World → Prop} (hn : Nxt N w Sh Fs V a (putD σ o.dst (.tu [])) K) : K (a.put o.dst undef) w := by
  obtain ⟨Fs', V', i1, i2, i3, i4⟩ := land (o := o) (av := .tu []) (v := undef) (Sh' := Sh) (Fd := noF) I hC hd (F0 := noF) (Keeps.refl noF w) (fun _ => Disj.no' _) (Disj.no _) (Le.refl _) (fun b o f => .inl f) I.sbd (by simp only [Rep]; exact ⟨#[], rfl, by simp [Reps]⟩) (fun _ _ f => f.elim) (Disj.no' _) (fun _ => Disj.no' _) (fun _ _ _ f => f.elim)
  refine hn _ _ _ _ _ i1 i2 (put_defers _ _ _) i3 ⟨i4.keeps.mono (Le.or (Le.refl _) (Le.no _)), i4.sh, fun b o f => ?_, fun b o f => ?_⟩
  · rcases i4.new b o f with g | (g | g) | g
    · exact .inl g
    · exact .inr (.inl g)
    · exact g.elim
    · exact .inr (.inr g)
  · rcases i4.own b o f with (g | g) | g
    · exact .inl g
    · exact g.elim
    · exact .inr g

/-! What hides. -/
mutual
theorem mask_le {bad bad' : Nat → List Nat → Bool} (h : ∀ r p, bad' r p = true → bad r p = true) : ∀ (a : AV), mask bad a = a → mask bad' a = a
  | .sc _, _ => rfl
  | .nl, _ => rfl
  | .im .., _ => rfl
  | .ow .., _ => rfl
  | .ip _, _ => rfl
  | .op _, _ => rfl
  | .dead, _ => rfl
  | .vw r p off n, e => by
    simp only [mask] at e ⊢
    cases hb : bad' r p
    · rfl
    · rw [h r p hb] at e; exact e
  | .ad r p i, e => by
    simp only [mask] at e ⊢
    cases hb : bad' r p
    · rfl
    · rw [h r p hb] at e; exact e
  | .ag cs, e => by
    simp only [mask, AV.ag.injEq] at e ⊢
    exact maskL_le h cs e
  | .tu cs, e => by
    simp only [mask, AV.tu.injEq] at e ⊢
    exact maskL_le h cs e
theorem maskL_le {bad bad' : Nat → List Nat → Bool} (h : ∀ r p, bad' r p = true → bad r p = true) : ∀ (cs : List AV), maskL bad cs = cs → maskL bad' cs = cs
  | [], _ => rfl
  | c :: cs, e => by
    simp only [maskL, List.cons.injEq] at e ⊢
    exact ⟨mask_le h c e.1, maskL_le h cs e.2⟩
end
mutual
theorem mask_noRf {bad : Nat → List Nat → Bool} : ∀ (a : AV), noRf a = true → mask bad a = a
  | .sc _, _ => rfl
  | .nl, _ => rfl
  | .im .., _ => rfl
  | .ow .., _ => rfl
  | .ip _, _ => rfl
  | .op _, _ => rfl
  | .dead, _ => rfl
  | .vw r p off n, e => by simp [noRf] at e
  | .ad r p i, e => by simp [noRf] at e
  | .ag cs, e => by
    simp only [noRf] at e
    simp only [mask, maskL_noRf cs e]
  | .tu cs, e => by
    simp only [noRf] at e
    simp only [mask, maskL_noRf cs e]
theorem maskL_noRf {bad : Nat → List Nat → Bool} : ∀ (cs : List AV), noRfL cs = true → maskL bad cs = cs
  | [], _ => rfl
  | c :: cs, e => by
    simp only [noRfL, Bool.and_eq_true] at e
    simp only [maskL, mask_noRf c e.1, maskL_noRf cs e.2]
end
theorem maskR_over {M W : List Nat} {ρ σ : Nat → AV} (h : ∀ t, W.contains t = true → M.contains t = true) : maskR M (over W ρ σ) = maskR M σ := by
  funext t
  unfold maskR over
  cases hm : M.contains t
  · cases hw : W.contains t
    · rfl
    · rw [h t hw] at hm; cases hm
  · rfl
section
variable {all : Array Oper} {anc : List (List Nat)} {quiet : List Nat} {gen : List (Nat × List Nat)}
theorem ordd_symm (i j : Nat) : ordd anc i j = ordd anc j i := by
  unfold ordd
  rw [Bool.or_comm ((anc.getD i []).contains j), show decide (j = i) = decide (i = j) by simp only [eq_comm]]
theorem mem_hides {i j d : Nat} (h : ordd anc i j = false) (hj : j < all.size) (hd : dstOf all j = some d) : (hides all anc i).contains d = true := by
  rw [List.contains_iff_mem]
  unfold hides
  rw [List.mem_filterMap]
  exact ⟨j, List.mem_range.2 hj, by rw [h]; exact hd⟩
theorem mem_hidesG {i j t : Nat} (h : ordd anc i j = false) (hj : j < all.size) (ht : ((dstOf all j).toList ++ (gTn gen j).getD []).contains t = true) : (hidesG all anc gen i).contains t = true := by
  rw [List.contains_iff_mem] at ht ⊢
  unfold hidesG
  rw [List.mem_flatMap]
  exact ⟨j, List.mem_range.2 hj, by rw [h]; exact ht⟩
theorem gmix_of {i j : Nat} (h : ordd anc i j = false) (hj : j < all.size) (hg : (gTn gen j).isSome = true) : gmix all anc gen i = true := by
  unfold gmix
  rw [List.any_eq_true]
  exact ⟨j, List.mem_range.2 hj, by rw [h, hg]; rfl⟩
theorem over_out {W : List Nat} {ρ σ : Nat → AV} {t : Nat} (h : W.contains t = false) : over W ρ σ t = σ t := by simp only [over, h, Bool.false_eq_true, if_false]
theorem over_in {W : List Nat} {ρ σ : Nat → AV} {t : Nat} (h : W.contains t = true) : over W ρ σ t = ρ t := by simp only [over, h, if_true]
theorem inL {A B : List Nat} {t : Nat} (h : (A ++ B).contains t = true) : A.contains t = true ∨ B.contains t = true := by
  simpa [List.contains_iff_mem] using h
theorem inD {d t : Option Nat} {x : Nat} (h : d.toList.contains x = true) : d = some x := by
  cases d with
  | none => simp at h
  | some y => simp at h; rw [h]
theorem Soft.swap {i j : Nat} {oi oj : Oper} {σ ρi ρj : Nat → AV} {Wi Wj : List Nat} (hij : ordd anc i j = false) (hap : ∀ t, (oi.dst.toList ++ (gTn gen i).getD []).contains t = true → (oj.dst.toList ++ (gTn gen j).getD []).contains t = true → False)
    (hj : Soft P all anc quiet gen j oj σ Wj ρj) (hi : Soft P all anc quiet gen i oi (over Wj ρj σ) Wi ρi) : Soft P all anc quiet gen i oi σ Wi ρi ∧ Soft P all anc quiet gen j oj (over Wi ρi σ) Wj ρj ∧ over Wj ρj (over Wi ρi σ) = over Wi ρi (over Wj ρj σ) := by
  have hji : ordd anc j i = false := by rw [ordd_symm]; exact hij
  have hjs : j < all.size := (Array.getElem?_eq_some_iff.1 hj.hi).1
  have his : i < all.size := (Array.getElem?_eq_some_iff.1 hi.hi).1
  have dj : dstOf all j = oj.dst := by simp [dstOf, hj.hi]
  have di : dstOf all i = oi.dst := by simp [dstOf, hi.hi]
  have sj : ∀ t, Wj.contains t = true → (hidesG all anc gen i).contains t = true := fun t ht => mem_hidesG hij hjs (by rw [dj]; exact hj.sub t ht)
  have si : ∀ t, Wi.contains t = true → (hidesG all anc gen j).contains t = true := fun t ht => mem_hidesG hji his (by rw [di]; exact hi.sub t ht)
  have out : ∀ t, (oi.dst.toList ++ (gTn gen i).getD []).contains t = true → Wj.contains t = false := fun t ht => by
    cases h : Wj.contains t
    · rfl
    · exact (hap t ht (hj.sub t h)).elim
  have outj : ∀ t, (oj.dst.toList ++ (gTn gen j).getD []).contains t = true → Wi.contains t = false := fun t ht => by
    cases h : Wi.contains t
    · rfl
    · exact (hap t (hi.sub t h) ht).elim
  have old : ∀ (bad : Nat → List Nat → Bool) t, Wj.contains t = true → mask bad (σ t) = σ t := fun bad t ht => by
    rcases inL (hj.sub t ht) with h | h
    · rw [(hj.hd t (inD (t := none) h)).1]; rfl
    · exact mask_noRf _ (hj.ht t (List.contains_iff_mem.1 h)).1
  have dmem : ∀ d, oi.dst = some d → (oi.dst.toList ++ (gTn gen i).getD []).contains d = true := fun d hd => by rw [hd]; simp
  have dmemj : ∀ d, oj.dst = some d → (oj.dst.toList ++ (gTn gen j).getD []).contains d = true := fun d hd => by rw [hd]; simp
  have tmem : ∀ t, t ∈ (gTn gen i).getD [] → (oi.dst.toList ++ (gTn gen i).getD []).contains t = true := fun t ht => by rw [List.contains_iff_mem]; exact List.mem_append_right _ ht
  have tmemj : ∀ t, t ∈ (gTn gen j).getD [] → (oj.dst.toList ++ (gTn gen j).getD []).contains t = true := fun t ht => by rw [List.contains_iff_mem]; exact List.mem_append_right _ ht
  have hSi : Soft P all anc quiet gen i oi σ Wi ρi := by
    refine ⟨hi.hi, hi.sub, fun d hd => ?_, fun t ht => ?_, fun hg t => ?_, ?_⟩
    · obtain ⟨g1, g2, g3⟩ := hi.hd d hd
      rw [over_out (out d (dmem d hd))] at g1
      refine ⟨g1, fun t => ?_, g3⟩
      cases ht : Wj.contains t
      · have := g2 t; rwa [over_out ht] at this
      · exact old _ t ht
    · obtain ⟨g1, g2⟩ := hi.ht t ht
      rw [over_out (out t (tmem t ht))] at g1
      exact ⟨g1, g2⟩
    · cases ht : Wj.contains t
      · have := hi.hc hg t; rwa [over_out ht] at this
      · exact ⟨fun _ => old _ t ht, fun _ => old _ t ht⟩
    · have := hi.core; rwa [maskR_over sj] at this
  refine ⟨hSi, ?_, ?_⟩
  · refine ⟨hj.hi, hj.sub, fun d hd => ?_, fun t ht => ?_, fun hg t => ?_, ?_⟩
    · obtain ⟨g1, g2, g3⟩ := hj.hd d hd
      refine ⟨by rw [over_out (outj d (dmemj d hd))]; exact g1, fun t => ?_, g3⟩
      cases ht : Wi.contains t
      · rw [over_out ht]; exact g2 t
      · rw [over_in ht]
        rcases inL (hi.sub t ht) with h | h
        · obtain ⟨-, -, k3⟩ := hi.hd t (inD (t := none) h)
          refine mask_le (fun r p hr => ?_) _ (k3 ht)
          have hr' : r = d := by simpa [isR] using hr
          subst hr'
          unfold badD
          rw [mem_hides hij hjs (dj.trans hd)]; simp
        · exact mask_noRf _ ((hi.ht t (List.contains_iff_mem.1 h)).2 ht)
    · obtain ⟨g1, g2⟩ := hj.ht t ht
      exact ⟨by rw [over_out (outj t (tmemj t ht))]; exact g1, g2⟩
    · cases ht : Wi.contains t
      · rw [over_out ht]; exact hj.hc hg t
      · rw [over_in ht]
        have key : mask (fun r p => oj.dst.toList.contains r || (!p.isEmpty && !(((gTn gen i).getD []).contains r))) (ρi t) = ρi t := by
          rcases inL (hi.sub t ht) with h | h
          · obtain ⟨-, -, k3⟩ := hi.hd t (inD (t := none) h)
            refine mask_le (fun r p hr => ?_) _ (k3 ht)
            unfold badD
            rw [gmix_of hij hjs hg]
            rcases Bool.or_eq_true _ _ ▸ hr with hr | hr
            · rw [mem_hides hij hjs (dj.trans (inD (t := none) hr))]; simp
            · rw [Bool.and_eq_true] at hr; rw [hr.1, hr.2]; simp
          · exact mask_noRf _ ((hi.ht t (List.contains_iff_mem.1 h)).2 ht)
        refine ⟨fun _ => mask_le (fun r p hr => ?_) _ key, fun h => ?_⟩
        · unfold badC at hr
          rcases Bool.or_eq_true _ _ ▸ hr with hr | hr
          · simp only [hr, Bool.true_or]
          · rw [Bool.and_eq_true] at hr
            have hT : ((gTn gen i).getD []).contains r = false := by
              cases h : ((gTn gen i).getD []).contains r
              · rfl
              · have h2 := mem_hidesG hji his (t := r) (by rw [di]; exact tmem r (List.contains_iff_mem.1 h))
                rw [h2] at hr; simp at hr
            simp only [hr.2, hT, Bool.not_false, Bool.and_true, Bool.or_true]
        · rw [si t ht] at h; cases h
    · rw [maskR_over si]; exact hj.core
  · funext t
    unfold over
    cases h1 : Wi.contains t
    · simp
    · rw [out t (hi.sub t h1)]; simp
theorem SDr.front {i : Nat} {l2 : List Nat} {σ' : Nat → AV} (hq : quiet.contains i = true ∨ (gTn gen i).isSome = true) : ∀ (l1 : List Nat) {σ : Nat → AV}, (∀ j ∈ l1, (quiet.contains j = true ∨ (gTn gen j).isSome = true) ∧ ordd anc i j = false ∧ ∀ t, ((dstOf all i).toList ++ (gTn gen i).getD []).contains t = true → ((dstOf all j).toList ++ (gTn gen j).getD []).contains t = true → False) → SDr P all anc quiet gen (l1 ++ i :: l2) σ σ' → ∃ σ1, DStep P all anc quiet gen i σ σ1 ∧ SDr P all anc quiet gen (l1 ++ l2) σ1 σ'
  | [], σ, _, h => h
  | j :: l1, σ, hj, h => by
    obtain ⟨σa, s1, h⟩ := h
    obtain ⟨σb, s2, h⟩ := SDr.front hq l1 (fun k hk => hj k (List.mem_cons_of_mem _ hk)) h
    obtain ⟨q1, q2, q3⟩ := hj j (by simp)
    rcases s1 with ⟨oj, Wj, ρj, hqj, rfl⟩ | ⟨o, e1, e2, e3, -⟩
    · rcases s2 with ⟨oi, Wi, ρi, hqi, rfl⟩ | ⟨o, e1, e2, e3, -⟩
      · have dj : dstOf all j = oj.dst := by simp [dstOf, hqj.hi]
        have di : dstOf all i = oi.dst := by simp [dstOf, hqi.hi]
        rw [dj, di] at q3
        obtain ⟨r1, r2, r3⟩ := Soft.swap q2 q3 hqj hqi
        rw [← r3] at h
        exact ⟨_, .inl ⟨oi, Wi, ρi, r1, rfl⟩, ⟨_, .inl ⟨oj, Wj, ρj, r2, rfl⟩, h⟩⟩
      · rcases hq with hq | hq
        · rw [hq] at e2; cases e2
        · rw [e3] at hq; cases hq
    · rcases q1 with q1 | q1
      · rw [q1] at e2; cases e2
      · rw [e3] at q1; cases q1

theorem drop_mask (M : List Nat) (σ : Nat → AV) : ∀ t, maskR M σ t = .dead ∨ maskR M σ t = σ t := by
  intro t; unfold maskR; split
  · exact .inl rfl
  · exact .inr rfl
theorem KS.top {w' : World} {V' : Nat → Value} {σ' : Nat → AV} {r : Nat} (hV : V' r = V r) {v : Value} : (∀ off n, KS w V σ v (.vw r [] off n) → KS w' V' σ' v (.vw r [] off n)) ∧ (∀ i, KS w V σ v (.ad r [] i) → KS w' V' σ' v (.ad r [] i)) := by
  refine ⟨fun off n hk h x hx => ?_, fun i hk h x hx => ?_⟩
  · have e := hx.nil_eq rfl
    rw [e, hV]; exact hk _ _ (.nil _ _)
  · have e := hx.nil_eq rfl
    rw [e, hV]; exact hk _ _ (.nil _ _)
theorem wp_put {next next' : Act → World → Prop} {Q Q' : Exit → Act → World → Prop} (h : ∀ a' w', (∃ v, a'.tmps = (a.put o.dst v).tmps) → next a' w' → next' a' w') (hQ : ∀ c a w, Q (.panic c) a w → Q' (.panic c) a w) (hL : LetsOut Q → LetsOut Q') (hh : o.wp P a w next Q) : o.wp P a w next' Q' := by
  unfold Oper.wp at *
  generalize (execOp a.eval o).run P w = r at *
  cases r with
  | ok n w' =>
    cases n <;> simp only [Oper.upon] at hh ⊢ <;>
      first
        | exact h _ _ ⟨_, rfl⟩ hh
        | exact h _ _ ⟨undef, by cases o.dst <;> rfl⟩ hh
        | exact Calls.mono hh (fun e w'' he => by cases e <;> first | exact h _ _ ⟨_, rfl⟩ he | exact hQ _ _ _ he | exact hL he)
        | exact Rows.mono hh (fun _ _ he => h _ _ ⟨_, rfl⟩ he)
  | halt x w' => cases x <;> simp only [Oper.upon] at hh ⊢ <;> first | exact hQ _ _ _ hh | exact hh
theorem Inv.thin {Fs' : Nat → Foot} (I : Inv w Sh Fs V σ) (h : ∀ t, Fs' t = Fs t ∨ (Fs' t = noF ∧ σ t = .dead)) : Inv w Sh Fs' V σ := by
  have hle : ∀ t, Le (Fs' t) (Fs t) := fun t => by
    rcases h t with e | ⟨e, -⟩
    · rw [e]; exact Le.refl _
    · rw [e]; exact Le.no _
  refine ⟨fun t => ?_, fun s t hst => (I.dis s t hst).le (hle s) (hle t), fun t => (I.shd t).le (hle t) (Le.refl _), fun t b o f => I.bnd t b o (hle t b o f), I.sbd⟩
  rcases h t with e | ⟨-, e⟩
  · rw [e]; exact I.rep t
  · rw [e]; simp only [Rep]
/-- One operation of a region, with what it comes to. -/
theorem SOps.one {ρ : Nat → AV} {Q : Exit → Act → World → Prop} {K : Act → World → Prop} (h : SOps P all [o] σ ρ) (I : Inv w Sh Fs V σ) (hC : Ctx N V a) (hd : dok N o = true) (main : ∀ a' w', (∃ v, a'.tmps = (a.put o.dst v).tmps) → (∃ Sh' Fs' V', Inv w' Sh' Fs' V' ρ ∧ Ctx N V' a' ∧ a'.defers = a.defers ∧ (∀ t, HB ≤ t → V' t = V t) ∧ Ext w Sh (Eng.T Fs) w' Sh' (Eng.T Fs')) → K a' w') :
    if Region.wanted o (yielded all a.tmps) then o.wp P a w K Q ∨ (o.asks P a w ∧ LetsOut Q) else K (a.put o.dst undef) w := by
  have hdk : [o].all (dok N) = true := by simp only [List.all_cons, hd, List.all_nil, Bool.and_self]
  let Q' : Exit → Act → World → Prop := fun e a' w' => match e with
    | .normal => ∃ Sh' Fs' V', Inv w' Sh' Fs' V' ρ ∧ Ctx N V' a' ∧ a'.defers = a.defers ∧ (∀ t, HB ≤ t → V' t = V t) ∧ Ext w Sh (Eng.T Fs) w' Sh' (Eng.T Fs')
    | e => Q e a' w'
  have hw := h N w Sh Fs V a I hC hdk Q' (fun a' w' Sh' Fs' V' i1 i2 i3 i4 i5 => ⟨Sh', Fs', V', i1, i2, i3, i4, i5⟩)
  unfold wpList at hw
  cases hwant : Region.wanted o (yielded all a.tmps)
  · rw [hwant] at hw
    simp only [Bool.false_eq_true, if_false] at hw ⊢
    exact main _ _ ⟨undef, rfl⟩ hw
  · rw [hwant] at hw
    simp only [if_true] at hw ⊢
    rcases hw with hw | ⟨hw1, hw2⟩
    · exact .inl (wp_put (fun a' w' hp hk => main a' w' hp hk) (fun c a w h => h) (fun h => h) hw)
    · exact .inr ⟨hw1, hw2⟩
theorem DStep.wp {Q : Exit → Act → World → Prop} {i : Nat} {σ1 : Nat → AV} (h : DStep P all anc quiet gen i σ σ1) (hap : ∀ o, all[i]? = some o → ∀ t, (o.dst.toList ++ (gTn gen i).getD []).contains t = true → (hidesG all anc gen i).contains t = false) (I : Inv w Sh Fs V σ) (hC : Ctx N V a) (hd : ∀ o, all[i]? = some o → dok N o = true) {K : Act → World → Prop} (hn : Nxt N w Sh Fs V a σ1 K) : wpOp P all Q i K a w := by
  rcases h with ⟨o, W, ρ, hS, rfl⟩ | ⟨o, h1, h2, h2', h3⟩
  · have h1 := hS.hi
    have hap := hap o h1
    have Im : Inv w Sh Fs V (maskR (hidesG all anc gen i) σ) := I.drop (drop_mask _ _)
    unfold wpOp
    rw [h1]
    simp only
    rcases hS.core with ⟨hq, hQ⟩ | ⟨hq, T, hT, hG, hW, hb⟩
    · rcases hQ with ⟨d, av, g1, g2, g3, rfl, g4⟩ | ⟨av, g1, g2, g3, rfl⟩ | ⟨d, g1, g2, rfl, g4⟩
      · rw [goes_sound Im hC g2]
        simp only [if_true]
        refine .inl (g3 N w Sh Fs V a Im hC _ _ fun v w' Sh' Fd k hSS hnew hb hr hf hds => ?_)
        obtain ⟨hdead, hfree, hbad⟩ := hS.hd d g1
        replace hbad := hbad (by simp)
        rw [g4] at hbad
        have hr' : Rep w' Sh' (KS w V σ) av Fd v := by
          have hk1 : ∀ r p, badD d (hides all anc i) (hidesG all anc gen i) (gmix all anc gen i) ((gTn gen i).getD []) r p = false → maskR (hidesG all anc gen i) σ r = σ r ∨ p = [] := by
            intro r p hb
            unfold badD at hb
            simp only [Bool.or_eq_false_iff, Bool.and_eq_false_iff, Bool.not_eq_false', List.isEmpty_iff] at hb
            rcases hb.2.2 with h | h
            · left; unfold maskR; rw [h.1]; rfl
            · exact .inr h
          have := Rep.mask (K' := KS w V σ) (badD d (hides all anc i) (hidesG all anc gen i) (gmix all anc gen i) ((gTn gen i).getD [])) (fun v r p off n hk hb => by
            rcases hk1 r p hb with h | rfl
            · intro h' x hx
              exact hk h' x (by rw [h]; exact hx)
            · exact (KS.top rfl).1 off n hk) (fun v r p j hk hb => by
            rcases hk1 r p hb with h | rfl
            · intro h' x hx
              exact hk h' x (by rw [h]; exact hx)
            · exact (KS.top rfl).2 j hk) av hr
          rwa [hbad] at this
        obtain ⟨Fs', V', i1, i2, i3, i4⟩ := land I hC (hd o h1) (F0 := noF) k (fun _ => Disj.no' _) (Disj.no _) hSS (fun b o f => (hnew b o f).elim .inl (fun h => .inr (.inr h))) hb hr' (fun b o f => ⟨.inr (hf b o f).1, (hf b o f).2⟩) hds (fun _ => Disj.no' _) (fun _ _ _ f => f.elim)
        have hput : putD σ o.dst av = over [d] ρ σ := by
          rw [g1]
          funext t
          simp only [putD, put, over]
          by_cases e : t = d
          · subst e
            rw [upd_same]
            simp only [List.contains_cons, beq_self_eq_true, Bool.true_or, if_true, g4]
            exact mask_le (fun r p hr => by simp only [isR] at hr; simp only [badD, hr, Bool.true_or]) av hbad
          · rw [upd_ne _ _ _ e]
            have : ([d] : List Nat).contains t = false := by simp [e]
            rw [this]
            exact hfree t
        rw [hput] at i1
        refine hn _ _ _ _ _ i1 i2 (put_defers _ _ _) i3 ⟨i4.keeps.mono (Le.or (Le.refl _) (Le.no _)), i4.sh, fun b o f => ?_, fun b o f => ?_⟩
        · rcases i4.new b o f with g | (g | g) | g
          · exact .inl g
          · exact .inr (.inl g)
          · exact g.elim
          · exact .inr (.inr g)
        · rcases i4.own b o f with (g | g) | g
          · exact .inl g
          · exact g.elim
          · exact .inr g
      · rw [goes_sound Im hC g2]
        simp only [if_true]
        refine .inl (g3 N w Sh Fs V a Im hC _ _ fun v w' Sh' Fd k hSS hnew hb hr hf hds => ?_)
        rw [g1]
        have hs' : ∀ t, Disj (Fs t) Sh' := fun t b o f g => by
          rcases hnew b o g with g | g
          · exact I.shd t b o f g
          · exact absurd (I.bnd t b o f) (by omega)
        exact hn a w' Sh' Fs V (I.frame k (fun _ => Disj.no' _) (Disj.no _) hSS hs' hb) hC rfl (fun _ _ => rfl) ⟨k.mono (Le.no _), hSS, fun b o f => (hnew b o f).elim .inl (fun h => .inr (.inr h)), fun b o f => .inl f⟩
      · rw [goes_sound Im hC g2]
        simp only [Bool.false_eq_true, if_false]
        obtain ⟨hdead, hfree, -⟩ := hS.hd d g1
        have hput : putD σ o.dst (.tu []) = over [d] ρ σ := by
          rw [g1]
          funext t
          simp only [putD, put, over]
          by_cases e : t = d
          · subst e; rw [upd_same]
            simp only [List.contains_cons, beq_self_eq_true, Bool.true_or, if_true, g4]
            rfl
          · rw [upd_ne _ _ _ e]
            have : ([d] : List Nat).contains t = false := by simp [e]
            rw [this]
            exact hfree t
        exact skip_putT I hC (hd o h1) (by rw [hput]; exact hn)
    · -- one that turns something: what is hidden is framed
      subst hW
      have hsome : (gTn gen i).isSome = true := by rw [hT]; rfl
      have hTD : (gTn gen i).getD [] = T := by rw [hT]; rfl
      rw [hTD] at hap
      obtain ⟨H, hH⟩ : ∃ H, H = hidesG all anc gen i := ⟨_, rfl⟩
      have hc := hS.hc hsome
      have hdd := hS.hd
      have htt := hS.ht
      rw [hTD] at htt
      rw [← hH] at hap hG hb Im hc hdd
      let Fsm : Nat → Foot := fun t => if H.contains t then noF else Fs t
      have Im' : Inv w Sh Fsm V (maskR H σ) := Im.thin fun t => by
        show (if H.contains t then noF else Fs t) = Fs t ∨ _
        cases hm : H.contains t
        · exact .inl rfl
        · refine .inr ⟨?_, by unfold maskR; rw [hm]; rfl⟩
          show (if H.contains t then noF else Fs t) = noF
          rw [hm]; rfl
      have hFle : Le (Eng.T Fsm) (Eng.T Fs) := fun b o ⟨t, f⟩ => by
        simp only [Fsm] at f
        split at f
        · exact f.elim
        · exact ⟨t, f⟩
      have hFd : ∀ t, H.contains t = true → Disj (Eng.T Fsm) (Fs t) := fun t ht b o ⟨s, f⟩ g => by
        simp only [Fsm] at f
        split at f
        · exact f.elim
        · rename_i hs
          exact I.dis s t (by rintro rfl; exact hs ht) b o f g
      have main : ∀ a' w', (∃ v, a'.tmps = (a.put o.dst v).tmps) → (∃ Sh' Fs' V', Inv w' Sh' Fs' V' ρ ∧ Ctx N V' a' ∧ a'.defers = a.defers ∧ (∀ t, HB ≤ t → V' t = V t) ∧ Ext w Sh (Eng.T Fsm) w' Sh' (Eng.T Fs')) → K a' w' := by
        rintro a' w' ⟨v, hput⟩ ⟨Sh', Fs', V', i1, i2, i3, i4, i5⟩
        have hV : ∀ t, o.dst.toList.contains t = false → V' t = V t := by
          intro t ht
          by_cases hb : HB ≤ t
          · exact i4 t hb
          · rw [i2.va t (by omega), hC.va t (by omega), hput]
            cases h2 : o.dst with
            | none => rfl
            | some d =>
              have hne : d ≠ t := by rintro rfl; rw [h2] at ht; simp at ht
              simp [Act.put, Array.getElem?_setIfInBounds, hne]
        let Fs2 : Nat → Foot := fun t => if H.contains t then Fs t else Fs' t
        have f2 : ∀ t, H.contains t = true → Fs2 t = Fs t := fun t ht => by simp only [Fs2, ht, if_true]
        have f3 : ∀ t, H.contains t = false → Fs2 t = Fs' t := fun t ht => by simp only [Fs2, ht, Bool.false_eq_true, if_false]
        have o2 : ∀ t, H.contains t = true → over (o.dst.toList ++ T) ρ σ t = σ t := fun t ht => over_out (by
          cases h : (o.dst.toList ++ T).contains t
          · rfl
          · rw [hap t h] at ht; cases ht)
        have o3 : ∀ t, H.contains t = false → over (o.dst.toList ++ T) ρ σ t = ρ t := fun t ht => by
          cases h : (o.dst.toList ++ T).contains t
          · rw [over_out h, hb t h]; unfold maskR; rw [ht]; rfl
          · exact over_in h
        have hE : ∀ t, H.contains t = false → mask (badE H) (ρ t) = ρ t := fun t ht => by
          cases h : (o.dst.toList ++ T).contains t
          · rw [hb t h]; unfold maskR; rw [ht]
            exact (hc t).2 ht
          · rcases inL h with h' | h'
            · refine mask_le (fun r p hr => ?_) _ ((hdd t (inD (t := none) h')).2.2 h)
              unfold badE at hr
              rw [Bool.and_eq_true] at hr
              unfold badD
              rw [hr.1, hr.2]; simp
            · exact mask_noRf _ ((htt t (List.contains_iff_mem.1 h')).2 h)
        have hhid : ∀ t, H.contains t = true → o.dst.toList.contains t = false := fun t ht => by
          cases h : o.dst.toList.contains t
          · rfl
          · have : (o.dst.toList ++ T).contains t = true := by
              rw [List.contains_iff_mem] at h ⊢; exact List.mem_append_left _ h
            rw [hap t this] at ht; cases ht
        have hS' : ∀ b x, Sh' b x → Sh b x ∨ (Eng.T Fsm) b x ∨ w.heap.size ≤ b := i5.new
        have I2 : Inv w' Sh' Fs2 V' (over (o.dst.toList ++ T) ρ σ) := by
          refine ⟨fun t => ?_, fun s t hst => ?_, fun t => ?_, fun t b x f => ?_, i1.sbd⟩
          · cases ht : H.contains t
            · rw [f3 t ht, o3 t ht]
              have hk1 : ∀ r p, badE H r p = false → H.contains r = false ∨ p = [] := by
                intro r p hb
                unfold badE at hb
                simp only [Bool.and_eq_false_iff, Bool.not_eq_false', List.isEmpty_iff] at hb
                exact hb
              have := Rep.mask (K' := KS w' V' (over (o.dst.toList ++ T) ρ σ)) (badE H) (fun v r p off n hk hb => by
                rcases hk1 r p hb with h | rfl
                · intro h' x hx
                  exact hk h' x (by rw [← o3 r h]; exact hx)
                · exact (KS.top rfl).1 off n hk) (fun v r p j hk hb => by
                rcases hk1 r p hb with h | rfl
                · intro h' x hx
                  exact hk h' x (by rw [← o3 r h]; exact hx)
                · exact (KS.top rfl).2 j hk) (ρ t) (i1.rep t)
              rwa [hE t ht] at this
            · rw [f2 t ht, o2 t ht, hV t (hhid t ht)]
              have hfr : Rep w' Sh' (KS w V σ) (σ t) (Fs t) (V t) := Rep.frame i5.keeps (fun b x s ⟨u, f⟩ => Im'.shd u b x f s) i5.sh (σ t) (fun _ _ h => h) (hFd t ht) (Le.refl _) (I.rep t)
              have hk1 : ∀ r p, badC o.dst.toList H r p = false → o.dst.toList.contains r = false ∧ (H.contains r = true ∨ p = []) := by
                intro r p hb
                unfold badC at hb
                simp only [Bool.or_eq_false_iff, Bool.and_eq_false_iff, Bool.not_eq_false', List.isEmpty_iff] at hb
                exact hb
              have hback : ∀ r, H.contains r = true → ∀ p h x, At w' (V' r) (over (o.dst.toList ++ T) ρ σ r) p h x → At w (V r) (σ r) p h x := fun r hr p h x hx => by
                rw [o2 r hr, hV r (hhid r hr)] at hx
                exact hx.frame i5.keeps (I.rep r) (hFd r hr)
              have := Rep.mask (K' := KS w' V' (over (o.dst.toList ++ T) ρ σ)) (badC o.dst.toList H) (fun v r p off n hk hb => by
                obtain ⟨h1, h2⟩ := hk1 r p hb
                rcases h2 with h | rfl
                · intro h' x hx
                  exact hk h' x (hback r h p h' x hx)
                · exact (KS.top (hV r h1)).1 off n hk) (fun v r p j hk hb => by
                obtain ⟨h1, h2⟩ := hk1 r p hb
                rcases h2 with h | rfl
                · intro h' x hx
                  exact hk h' x (hback r h p h' x hx)
                · exact (KS.top (hV r h1)).2 j hk) (σ t) hfr
              rwa [(hc t).1 ht] at this
          · have cross : ∀ s t, H.contains s = true → H.contains t = false → Disj (Fs s) (Fs' t) := fun s t hs ht b x f g => by
              rcases i5.own b x ⟨t, g⟩ with g | g
              · exact hFd s hs b x g f
              · exact absurd (I.bnd s b x f) (by omega)
            cases hs : H.contains s <;> cases ht : H.contains t
            · rw [f3 s hs, f3 t ht]; exact i1.dis s t hst
            · rw [f3 s hs, f2 t ht]; exact (cross t s ht hs).symm
            · rw [f2 s hs, f3 t ht]; exact cross s t hs ht
            · rw [f2 s hs, f2 t ht]; exact I.dis s t hst
          · cases ht : H.contains t
            · rw [f3 t ht]; exact i1.shd t
            · rw [f2 t ht]
              intro b x f g
              rcases hS' b x g with g | g | g
              · exact I.shd t b x f g
              · exact hFd t ht b x g f
              · exact absurd (I.bnd t b x f) (by omega)
          · cases ht : H.contains t
            · rw [f3 t ht] at f; exact i1.bnd t b x f
            · rw [f2 t ht] at f; exact Nat.lt_of_lt_of_le (I.bnd t b x f) i5.keeps.size
        refine hn a' w' Sh' Fs2 V' I2 i2 i3 i4 ⟨i5.keeps.mono hFle, i5.sh, fun b x f => ?_, fun b x ⟨t, f⟩ => ?_⟩
        · rcases hS' b x f with g | g | g
          · exact .inl g
          · exact .inr (.inl (hFle b x g))
          · exact .inr (.inr g)
        · cases ht : H.contains t
          · rw [f3 t ht] at f
            exact (i5.own b x ⟨t, f⟩).imp (hFle b x) id
          · rw [f2 t ht] at f; exact .inl ⟨t, f⟩
      exact hG.one Im' hC (hd o h1) main
  · unfold wpOp
    rw [h1]
    exact h3.one I hC (hd o h1) fun a' w' _ ⟨Sh', Fs', V', i1, i2, i3, i4, i5⟩ => hn a' w' Sh' Fs' V' i1 i2 i3 i4 i5

/-- What is not yet listed, in the text's order. -/
def rest (n : Nat) (listed : Array Bool) : List Nat := (List.range n).filter fun i => !listed.getD i true
theorem rest_split {n i : Nat} {listed : Array Bool} (hi : i ∈ rest n listed) : ∃ l1 l2, rest n listed = l1 ++ i :: l2 ∧ (∀ j ∈ l1, j < i) ∧ rest n (listed.setIfInBounds i true) = l1 ++ l2 := by
  have hmem := List.mem_filter.1 hi
  have hlt : i < n := List.mem_range.1 hmem.1
  have hl : listed.getD i true = false := by simpa using hmem.2
  have hsz : i < listed.size := by
    rcases Nat.lt_or_ge i listed.size with h | h
    · exact h
    · rw [Array.getD_eq_getD_getElem?, Array.getElem?_eq_none h] at hl; simp at hl
  have hr : List.range n = List.range i ++ i :: (List.range' (i + 1) (n - i - 1)) := by
    rw [List.range_eq_range', List.range_eq_range']
    have : n = i + (1 + (n - i - 1)) := by omega
    conv => lhs; rw [this]
    rw [← List.range'_append_1, Nat.zero_add, ← List.range'_append_1]
    rfl
  refine ⟨(List.range i).filter fun k => !listed.getD k true, (List.range' (i + 1) (n - i - 1)).filter fun k => !listed.getD k true, ?_, fun j hj => List.mem_range.1 (List.mem_filter.1 hj).1, ?_⟩
  · unfold rest
    rw [hr, List.filter_append, List.filter_cons_of_pos (by simp [hl])]
  · unfold rest
    rw [hr, List.filter_append, List.filter_cons_of_neg (by simp [hsz])]
    congr 1
    · refine List.filter_congr fun k hk => ?_
      have : i ≠ k := by have := List.mem_range.1 hk; omega
      rw [getD_set_ne true this]
    · refine List.filter_congr fun k hk => ?_
      have : i ≠ k := by have := List.mem_range'_1.1 hk; omega
      rw [getD_set_ne true this]
theorem drawn_any (hok : drawOk all anc quiet gen = true) (hdk : ∀ (i : Nat) (o : Oper), all[i]? = some o → dok N o = true) {Q : Exit → Act → World → Prop} {σ' : Nat → AV} : ∀ (fuel : Nat) (listed : Array Bool) {σ : Nat → AV} {w : World} {Sh : Foot} {Fs : Nat → Foot} {V : Nat → Value} {a : Act}, (rest all.size listed).length ≤ fuel → listed.size = all.size → (∀ k, listed.getD k false = true → ∀ j ∈ anc.getD k [], listed.getD j false = true) →
    Inv w Sh Fs V σ → Ctx N V a → SDr P all anc quiet gen (rest all.size listed) σ σ' → Nxt N w Sh Fs V a σ' (Q .normal) → wpAny P .any all Q fuel listed a w := by
  have hchk : ∀ i, i < all.size → ∀ o, all[i]? = some o → (∀ e ∈ o.after.toList, Region.binds .any e = true → e.on < i) ∧ (∀ j ∈ anc.getD i [], j < i ∧ ∃ e ∈ o.after.toList, Region.binds .any e = true ∧ (e.on = j ∨ j ∈ anc.getD e.on [])) ∧
      (∀ j, j < i → (anc.getD i []).contains j = true ∨ ((quiet.contains i = true ∨ (gTn gen i).isSome = true) ∧ (quiet.contains j = true ∨ (gTn gen j).isSome = true) ∧ ∀ t, ((dstOf all i).toList ++ (gTn gen i).getD []).contains t = true → ((dstOf all j).toList ++ (gTn gen j).getD []).contains t = true → False)) := by
    intro i hi o ho
    have := List.all_eq_true.1 hok i (List.mem_range.2 hi)
    simp only [ho, Option.map_some, Option.getD_some, Bool.and_eq_true, List.all_eq_true, List.any_eq_true, Bool.or_eq_true, Bool.not_eq_true', decide_eq_true_eq, List.mem_range, beq_iff_eq] at this
    obtain ⟨⟨t1, t2⟩, t3⟩ := this
    refine ⟨fun e he hb => (t1 e he).resolve_left (by rw [hb]; simp), fun j hj => ?_, fun j hj => ?_⟩
    · obtain ⟨u1, e, u2, u3, u4⟩ := t2 j hj
      exact ⟨u1, e, u2, u3, u4.imp id (fun h => List.contains_iff_mem.1 h)⟩
    · rcases t3 j hj with h | ⟨⟨h1, h2⟩, h3⟩
      · exact .inl h
      · refine .inr ⟨h1, h2, fun t ht ht' => ?_⟩
        have := List.all_eq_true.1 h3 t (List.contains_iff_mem.1 ht)
        rw [ht'] at this; cases this
  have hap : ∀ i o, all[i]? = some o → ∀ t, (o.dst.toList ++ (gTn gen i).getD []).contains t = true → (hidesG all anc gen i).contains t = false := by
    intro i o ho t ht
    cases hh : (hidesG all anc gen i).contains t
    · rfl
    · exfalso
      have hi : i < all.size := (Array.getElem?_eq_some_iff.1 ho).1
      have di : dstOf all i = o.dst := by simp [dstOf, ho]
      rw [← di] at ht
      rw [List.contains_iff_mem] at hh
      unfold hidesG at hh
      rw [List.mem_flatMap] at hh
      obtain ⟨j, hj, hm⟩ := hh
      have hj := List.mem_range.1 hj
      obtain ⟨oj, hoj⟩ : ∃ oj, all[j]? = some oj := ⟨_, Array.getElem?_eq_getElem hj⟩
      cases hor : ordd anc i j
      · rw [hor] at hm
        simp only [Bool.false_eq_true, if_false] at hm
        have hne : j ≠ i ∧ (anc.getD i []).contains j = false ∧ (anc.getD j []).contains i = false := by
          unfold ordd at hor
          simp only [Bool.or_eq_false_iff, decide_eq_false_iff_not] at hor
          exact hor
        rcases Nat.lt_or_gt_of_ne hne.1 with h | h
        · rcases (hchk i hi o ho).2.2 j h with h' | ⟨-, -, h'⟩
          · rw [hne.2.1] at h'; cases h'
          · exact h' t ht (List.contains_iff_mem.2 hm)
        · rcases (hchk j hj oj hoj).2.2 i h with h' | ⟨-, -, h'⟩
          · rw [hne.2.2] at h'; cases h'
          · exact h' t (List.contains_iff_mem.2 hm) ht
      · rw [hor] at hm; simp at hm
  intro fuel
  induction fuel with
  | zero =>
    intro listed σ w Sh Fs V a hlen hsz hinv I hC hs hn
    have hr : rest all.size listed = [] := List.eq_nil_of_length_eq_zero (by omega)
    rw [hr] at hs
    simp only [SDr] at hs
    subst hs
    refine ⟨?_, hn.here I hC⟩
    rw [List.eq_nil_iff_forall_not_mem]
    intro i hi
    have := (mem_ready.1 hi)
    obtain ⟨h0, o, ho, -⟩ := this
    have hmem : i ∈ rest all.size listed := List.mem_filter.2 ⟨List.mem_range.2 (Array.getElem?_eq_some_iff.1 ho).1, by simp only [h0, Bool.not_false]⟩
    rw [hr] at hmem; cases hmem
  | succ fuel ih =>
    intro listed σ w Sh Fs V a hlen hsz hinv I hC hs hn
    refine ⟨fun hre => ?_, fun i hi => ?_⟩
    · cases hr : rest all.size listed with
      | nil =>
        rw [hr] at hs
        simp only [SDr] at hs
        subst hs
        exact hn.here I hC
      | cons i l =>
        exfalso
        have hi : i ∈ rest all.size listed := by rw [hr]; simp
        have hm := List.mem_filter.1 hi
        have hlt := List.mem_range.1 hm.1
        have h0 : listed.getD i true = false := by simpa using hm.2
        obtain ⟨o, ho⟩ : ∃ o, all[i]? = some o := ⟨_, Array.getElem?_eq_getElem hlt⟩
        have : i ∈ Region.ready .any all listed := by
          rw [mem_ready]
          refine ⟨h0, o, ho, fun e he hb => ?_⟩
          have hon := (hchk i hlt o ho).1 e (Array.mem_toList_iff.2 he) hb
          obtain ⟨l1, l2, q1, q2, -⟩ := rest_split hi
          have hl1 : l1 = [] := by
            cases l1 with
            | nil => rfl
            | cons x xs =>
              rw [hr] at q1
              simp only [List.cons_append, List.cons.injEq] at q1
              have := q2 x (by simp)
              omega
          rcases hx : listed.getD e.on true with _ | _
          · exfalso
            have hmem : e.on ∈ rest all.size listed := List.mem_filter.2 ⟨List.mem_range.2 (by omega), by simp only [hx, Bool.not_false]⟩
            rw [q1, hl1, List.nil_append] at hmem
            have hsub : ∀ j ∈ l2, i < j := by
              intro j hj
              have hpw : (rest all.size listed).Pairwise (· < ·) := List.Pairwise.filter _ List.pairwise_lt_range
              rw [q1, hl1, List.nil_append, List.pairwise_cons] at hpw
              exact hpw.1 j hj
            rcases List.mem_cons.1 hmem with h | h
            · omega
            · have := hsub _ h; omega
          · have hb2 : e.on < listed.size := by omega
            rw [Array.getD_eq_getD_getElem?, Array.getElem?_eq_getElem hb2] at hx ⊢
            simpa using hx
        rw [hre] at this; cases this
    · have hready := mem_ready.1 hi
      obtain ⟨h0, o, ho, haft⟩ := hready
      have hlt : i < all.size := (Array.getElem?_eq_some_iff.1 ho).1
      have himem : i ∈ rest all.size listed := List.mem_filter.2 ⟨List.mem_range.2 hlt, by simp only [h0, Bool.not_false]⟩
      obtain ⟨l1, l2, q1, q2, q3⟩ := rest_split himem
      obtain ⟨c1, c2, c3⟩ := hchk i hlt o ho
      have hanc : ∀ j ∈ anc.getD i [], listed.getD j false = true := by
        intro j hj
        obtain ⟨-, e, he, hb, hor⟩ := c2 j hj
        have hl := haft e (Array.mem_toList_iff.1 he) hb
        rcases hor with rfl | hor
        · exact hl
        · exact hinv e.on hl j hor
      rw [q1] at hs
      have hunl : ∀ j ∈ l1, listed.getD j false = false ∧ j < all.size := by
        intro j hj
        have hjm : j ∈ rest all.size listed := by rw [q1]; simp [hj]
        have hm := List.mem_filter.1 hjm
        have hjl := List.mem_range.1 hm.1
        have : listed.getD j true = false := by simpa using hm.2
        have hb2 : j < listed.size := by omega
        rw [Array.getD_eq_getD_getElem?, Array.getElem?_eq_getElem hb2] at this ⊢
        exact ⟨by simpa using this, hjl⟩
      have hsoft : ∀ j ∈ l1, ((quiet.contains i = true ∨ (gTn gen i).isSome = true) ∧ (quiet.contains j = true ∨ (gTn gen j).isSome = true) ∧ ∀ t, ((dstOf all i).toList ++ (gTn gen i).getD []).contains t = true → ((dstOf all j).toList ++ (gTn gen j).getD []).contains t = true → False) ∧ ordd anc i j = false := fun j hj => by
        have hji := q2 j hj
        obtain ⟨u1, u2⟩ := hunl j hj
        have hnc : (anc.getD i []).contains j = false := by
          rcases hx : (anc.getD i []).contains j with _ | _
          · rfl
          · have := hanc j (List.contains_iff_mem.1 hx); rw [u1] at this; cases this
        rcases c3 j hji with h | h
        · rw [hnc] at h; cases h
        · refine ⟨h, ?_⟩
          unfold ordd
          simp only [Bool.or_eq_false_iff, decide_eq_false_iff_not]
          refine ⟨by omega, hnc, ?_⟩
          rcases hx : (anc.getD j []).contains i with _ | _
          · rfl
          · obtain ⟨oj, hoj⟩ : ∃ oj, all[j]? = some oj := ⟨_, Array.getElem?_eq_getElem u2⟩
            have := ((hchk j u2 oj hoj).2.1 i (List.contains_iff_mem.1 hx)).1
            omega
      obtain ⟨σ1, s1, s2⟩ : ∃ σ1, DStep P all anc quiet gen i σ σ1 ∧ SDr P all anc quiet gen (l1 ++ l2) σ1 σ' := by
        cases hl : l1 with
        | nil => rw [hl] at hs; exact hs
        | cons j0 l0 =>
          exact hl ▸ SDr.front (hsoft j0 (by rw [hl]; simp)).1.1 l1 (fun j hj => ⟨(hsoft j hj).1.2.1, (hsoft j hj).2, (hsoft j hj).1.2.2⟩) hs
      refine s1.wp (fun o ho => hap i o ho) I hC (fun o ho => hdk i o ho) ?_
      intro a' w' Sh' Fs' V' k1 k2 k3 k4 k5
      refine ih (listed.setIfInBounds i true) ?_ (by simpa using hsz) ?_ k1 k2 (by rw [q3]; exact s2) (hn.trans k3 k4 k5)
      · rw [q3]; rw [q1] at hlen; simp at hlen ⊢; omega
      · intro k hk j hj
        by_cases e : k = i
        · subst e; exact getD_set_true (hanc j hj)
        · rw [getD_set_ne false (Ne.symm e)] at hk
          exact getD_set_true (hinv k hk j hj)
end
end
end Go.Eng
/- The engine, part P: code and functions bear it out: the soundness of the whole relation. -/
namespace Go.Eng
open Go
set_option linter.unusedVariables false
set_option linter.unusedSimpArgs false
section
variable {P : Program} {w w' : World} {Sh Sh' : Foot} {Fs : Nat → Foot} {V : Nat → Value} {σ : Nat → AV} {a : Act} {o : Oper} {N : Nat}

theorem s_opsCons {all : Array Oper} {l : List Oper} {σ1 σ2 : Nat → AV} (hg : goes all σ o = some true) (h : SOp P o σ σ1) (k : SOps P all l σ1 σ2) : SOps P all (o :: l) σ σ2 := by
  intro N w Sh Fs V a I hC hd Q hn
  simp only [List.all_cons, Bool.and_eq_true] at hd
  refine wpList_step fun K hK => ?_
  rw [goes_sound I hC hg]
  simp only [if_true]
  refine h N w Sh Fs V a I hC hd.1 K Q fun a' w' Sh' Fs' V' i1 i2 i3 i4 i5 => hK _ _ ?_
  exact k N w' Sh' Fs' V' a' i1 i2 hd.2 Q (hn.trans i3 i4 i5)
theorem s_opsSkip {all : Array Oper} {l : List Oper} {σ2 : Nat → AV} (hg : goes all σ o = some false) (k : SOps P all l (putD σ o.dst (.tu [])) σ2) : SOps P all (o :: l) σ σ2 := by
  intro N w Sh Fs V a I hC hd Q hn
  simp only [List.all_cons, Bool.and_eq_true] at hd
  refine wpList_step fun K hK => ?_
  rw [goes_sound I hC hg]
  simp only [Bool.false_eq_true, if_false]
  refine hK _ _ (skip_putT I hC hd.1 (K := wpList P all Q l) fun a' w' Sh' Fs' V' i1 i2 i3 i4 i5 => ?_)
  exact k N w' Sh' Fs' V' a' i1 i2 hd.2 Q (hn.trans i3 i4 i5)
/-- What is owned is only read from now on. -/
theorem Inv.hardS {r : Nat} {p : List Nat} {x : AV} (I : Inv w Sh Fs V σ) (hn : getN p (σ r) = some x) (hx : isOw x = true) : ∃ Sh' Fs', Inv w Sh' Fs' V (setS σ r p (hard x)) ∧ Ext w Sh (T Fs) w Sh' (T Fs') := by
  obtain ⟨f, u, Fx, Fr, hf, g1, g2, g3, g4, g5, g6⟩ := I.mod hn
  have hb : Bd w (Or Sh Fx) := fun b o f => f.elim (I.sbd b o) (fun f => I.bnd r b o (g4 b o f))
  obtain ⟨I', -⟩ := g6 (w' := w) (Sh' := Or Sh Fx) (G := noF) (Fx' := noF) (x' := hard x) (bad := fun _ _ => false) (Keeps.refl _ _) (Disj.no' _) (fun _ _ => Disj.no' _) (Disj.no _) (Le.left _ _) (fun t ht => Disj.or (I.shd t) ((I.dis t r ht).le (Le.refl _) g4)) (Disj.or ((I.shd r).le g5 (Le.refl _)) g3.symm) (Rep.hard x g1) (Disj.no' _) (fun _ _ => Disj.no' _) (Disj.no' _) (fun _ _ f => f.elim) hb
    (fun j t h y _ k => by cases x <;> simp only [isOw, Bool.false_eq_true] at hx <;> simp only [hard] at k <;> cases k)
  rw [modS_no] at I'
  refine ⟨_, _, I', Keeps.refl _ _, Le.left _ _, fun b o f => f.elim .inl (fun f => .inr (.inl ⟨r, g4 b o f⟩)), fun b o ⟨t, f⟩ => ?_⟩
  by_cases e : t = r
  · subst e; rw [upd_same] at f
    exact f.elim (fun f => .inl ⟨t, g5 b o f⟩) (fun f => f.elim)
  · rw [upd_ne _ _ _ e] at f; exact .inl ⟨t, f⟩
theorem Inv.castS {r : Nat} {p : List Nat} {x : AV} (I : Inv w Sh Fs V σ) (hn : getN p (σ r) = some .nl) (hx : CastN x) : ∃ Fs', Inv w Sh Fs' V (setS σ r p x) ∧ Ext w Sh (T Fs) w Sh (T Fs') := by
  obtain ⟨f, u, Fx, Fr, hf, g1, g2, g3, g4, g5, g6⟩ := I.mod hn
  simp only [Rep] at g1
  subst g1
  have hr : Rep w Sh KF x noF (.slice none 0 0) := by
    cases hx with
    | im =>
      simp only [Rep, Reps]
      exact ⟨none, 0, [], rfl, Nat.le_refl _, fun h => absurd rfl h, by simp, rfl⟩
    | ow e sz h =>
      simp only [Rep, Reps]
      exact ⟨[], noF, World.ownsRow_nil w 0 e sz, h, fun g hg => by simp [Value.ownBlock] at hg, by simp, Le.refl _, rfl⟩
  obtain ⟨I', -⟩ := g6 (w' := w) (Sh' := Sh) (G := noF) (Fx' := noF) (x' := x) (bad := fun _ _ => false) (Keeps.refl _ _) (Disj.no' _) (fun _ _ => Disj.no' _) (Disj.no _) (Le.refl _) (fun t _ => I.shd t) ((I.shd r).le g5 (Le.refl _)) hr (Disj.no' _) (fun _ _ => Disj.no' _) (Disj.no' _) (fun _ _ f => f.elim) I.sbd
    (fun j t h y _ k => by
      cases hx with
      | im => cases k
      | ow e sz h => cases k)
  rw [modS_no] at I'
  refine ⟨_, I', Keeps.refl _ _, Le.refl _, fun b o f => .inl f, fun b o ⟨t, f⟩ => ?_⟩
  by_cases e : t = r
  · subst e; rw [upd_same] at f
    exact f.elim (fun f => .inl ⟨t, g5 b o f⟩) (fun f => f.elim)
  · rw [upd_ne _ _ _ e] at f; exact .inl ⟨t, f⟩

/-! Code. -/
theorem loop_of_LW {c : Code} {Q : Exit → Act → World → Prop} (h : LW P c Q a w) : (Code.loop c).wp P Q a w :=
  fun b k cs => let ⟨e, a', w', q, r⟩ := h b k cs; ⟨e, a', w', q, .of_steps (.one step_loop) r⟩
theorem LW_step {c : Code} {Q : Exit → Act → World → Prop} (h : c.wp P (Exit.then (LW P c Q) Q) a w) : LW P c Q a w := by
  intro b k cs
  obtain ⟨e, a₁, w₁, hq, harr⟩ := h b (.inLoop c :: k) cs
  cases e with
  | normal =>
    obtain ⟨e₂, a₂, w₂, hq₂, harr₂⟩ := hq b k cs
    exact ⟨e₂, a₂, w₂, hq₂, .of_steps (Steps.trans harr (.one step_inLoop)) harr₂⟩
  | exit id => exact ⟨_, a₁, w₁, hq, .pass (x := .inLoop c) rfl (fun _ _ => .inl (by simp)) harr⟩
  | goto l => exact ⟨_, a₁, w₁, hq, .pass (x := .inLoop c) rfl (fun _ _ => .inl (by simp)) harr⟩
  | ret => exact ⟨_, a₁, w₁, hq, .pass (x := .inLoop c) rfl (fun _ _ => .inl (by simp)) harr⟩
  | panic ch => exact ⟨_, a₁, w₁, hq, .pass (x := .inLoop c) rfl (fun _ _ => .inl (by simp)) harr⟩
  | outgrown => exact ⟨_, a₁, w₁, hq, .pass (x := .inLoop c) rfl (fun _ _ => .inl (by simp)) harr⟩
theorem ex_then {ex : Ex} {next : Act → World → Prop} {Q : Exit → Act → World → Prop} (hx : ex ≠ .normal) (a : Act) (w : World) : Exit.then next Q ex.toExit a w = Q ex.toExit a w := by
  cases ex <;> first | exact absurd rfl hx | rfl
theorem ex_inB {ex : Ex} {id : Nat} {Q : Exit → Act → World → Prop} (a : Act) (w : World) : Exit.inBlock id Q ex.toExit a w = Q (ex.inB id).toExit a w := by
  cases ex <;> simp only [Ex.toExit, Exit.inBlock, Ex.inB]
  split <;> rfl
theorem dok_all {N id : Nat} {ops : Array Oper} {d : Bool} (h : codeOk N (.region id ops d) = true) : ops.toList.all (dok N) = true := by
  unfold codeOk at h
  exact h

/-! Functions. -/
theorem Reps.foots : ∀ {cs : List AV} {F : Foot} {xs : List Value}, Reps w Sh KF cs F xs → ∃ Fi : Nat → Foot, (∀ i c, cs[i]? = some c → ∃ x, xs[i]? = some x ∧ Rep w Sh KF c (Fi i) x) ∧ (∀ i j, i ≠ j → Disj (Fi i) (Fi j)) ∧ (∀ i, Le (Fi i) F) ∧ (∀ i, cs.length ≤ i → Fi i = noF)
  | [], F, xs, h => ⟨fun _ => noF, fun i c h => by simp at h, fun _ _ _ => Disj.no _, fun _ => Le.no _, fun _ _ => rfl⟩
  | c :: cs, F, xs, h => by
    simp only [Reps] at h
    obtain ⟨x, xs', F1, F2, rfl, h1, h2, hd, l1, l2⟩ := h
    obtain ⟨Fi, g1, g2, g3, g4⟩ := h2.foots
    refine ⟨fun i => match i with | 0 => F1 | i + 1 => Fi i, fun i c' hc => ?_, fun i j hij => ?_, fun i => ?_, fun i hi => ?_⟩
    · cases i with
      | zero => simp only [List.getElem?_cons_zero, Option.some.injEq] at hc; subst hc; exact ⟨x, rfl, h1⟩
      | succ i => exact g1 i c' hc
    · cases i with
      | zero =>
        cases j with
        | zero => exact absurd rfl hij
        | succ j => exact hd.le (Le.refl _) (g3 j)
      | succ i =>
        cases j with
        | zero => exact (hd.le (Le.refl _) (g3 i)).symm
        | succ j => exact g2 i j (by omega)
    · cases i with
      | zero => exact l1
      | succ i => exact (g3 i).trans l2
    · cases i with
      | zero => simp at hi
      | succ i => exact g4 i (by simpa using hi)
mutual
theorem Rep.noRf : ∀ (a : AV) {K : Value → AV → Prop} {F : Foot} {v : Value}, Eng.noRf a = true → Rep w Sh K a F v → Rep w Sh KF a F v
  | .sc _, _, _, _, _, h => by simpa only [Rep] using h
  | .nl, _, _, _, _, h => by simpa only [Rep] using h
  | .im .., _, _, _, _, h => by simpa only [Rep] using h
  | .ow .., _, _, _, _, h => by simpa only [Rep] using h
  | .ip _, _, _, _, _, h => by simpa only [Rep] using h
  | .op _, _, _, _, _, h => by simpa only [Rep] using h
  | .dead, _, _, _, _, h => by simp only [Rep]
  | .vw .., _, _, _, hn, h => by simp [Eng.noRf] at hn
  | .ad .., _, _, _, hn, h => by simp [Eng.noRf] at hn
  | .ag cs, _, _, _, hn, h => by
    simp only [Eng.noRf] at hn
    simp only [Rep] at h ⊢
    obtain ⟨xs, e, h1, hr⟩ := h
    exact ⟨xs, e, h1, Reps.noRf cs hn hr⟩
  | .tu cs, _, _, _, hn, h => by
    simp only [Eng.noRf] at hn
    simp only [Rep] at h ⊢
    obtain ⟨xs, e, hr⟩ := h
    exact ⟨xs, e, Reps.noRf cs hn hr⟩
theorem Reps.noRf : ∀ (cs : List AV) {K : Value → AV → Prop} {F : Foot} {xs : List Value}, noRfL cs = true → Reps w Sh K cs F xs → Reps w Sh KF cs F xs
  | [], _, _, _, _, h => by simpa only [Reps] using h
  | c :: cs, _, _, _, hn, h => by
    simp only [noRfL, Bool.and_eq_true] at hn
    simp only [Reps] at h ⊢
    obtain ⟨x, xs', F1, F2, e, h1, h2, hd, l1, l2⟩ := h
    exact ⟨x, xs', F1, F2, e, Rep.noRf c hn.1 h1, Reps.noRf cs hn.2 h2, hd, l1, l2⟩
end
def resV : List Value → Value
  | [v] => v
  | vs => .tuple vs.toArray
theorem run_results {rs : List ResultVar} {as : List AV} (I : Inv w Sh Fs V σ) (hC : Ctx N V a) (h : ResL P σ rs as) : ∃ vs, Reps w Sh (KS w V σ) as noF vs ∧
    Sem.run P (rs.mapM (fun (x : ResultVar) => (match x with
      | ResultVar.tmp t => pure (a.tmps.getD t undef)
      | ResultVar.cell b t => do loadVar t (← asAddr (a.tmps.getD b undef)) : Sem Value))) w = Result.ok vs w := by
  induction h with
  | nil => exact ⟨[], by simp [Reps], by simp⟩
  | @tmp t rs as k ih =>
    obtain ⟨vs, h1, h2⟩ := ih
    refine ⟨a.tmps.getD t undef :: vs, ?_, ?_⟩
    · simp only [Reps]; exact ⟨_, vs, noF, noF, rfl, I.ov hC.va (.tmp t), h1, Disj.no _, Le.refl _, Le.refl _⟩
    · simp only [List.mapM_cons, Sem.run_bind, Sem.run_pure, Result.andThen_ok, h2]
  | @cell b t c rs as h k ih =>
    obtain ⟨vs, h1, h2⟩ := ih
    have hl : ∃ ad y, a.tmps.getD b undef = .pointer (some ad) ∧ (loadVar t ad).run P w = .ok y w ∧ Rep w Sh (KS w V σ) c noF y := by
      cases h with
      | one c ht hc => exact load_one I (I.ov hC.va (.tmp b)) ht hc
      | many L s ht hs hl h0 hc => exact load_many I (I.ov hC.va (.tmp b)) ht hs hl h0 hc
    obtain ⟨ad, y, e1, e2, e3⟩ := hl
    refine ⟨y :: vs, ?_, ?_⟩
    · simp only [Reps]; exact ⟨_, vs, noF, noF, rfl, e3, h1, Disj.no _, Le.refl _, Le.refl _⟩
    · have ha : (asAddr (a.tmps.getD b undef)).run P w = .ok ad w := by rw [e1]; rfl
      simp only [List.mapM_cons, Sem.run_bind, ha, Sem.run_pure, Result.andThen_ok, e2, h2]
theorem run_results' {F : Func} {as : List AV} (I : Inv w Sh Fs V σ) (hC : Ctx N V a) (h : ResL P σ F.results.toList as) : ∃ vs, Reps w Sh (KS w V σ) as noF vs ∧ (results F a.tmps).run P w = .ok (resV vs) w := by
  obtain ⟨vs, h1, this⟩ := run_results I hC h
  refine ⟨vs, h1, ?_⟩
  unfold results
  rw [Array.mapM_eq_mapM_toList]
  simp only [Sem.run_bind, Sem.run_map, Sem.run_pure]
  refine (congrArg (fun (r : Result (List Value)) => (r.andThen fun a w' => Result.ok a.toArray w').andThen fun a w' => Result.ok (if h : a.size = 1 then a[0] else Value.tuple a) w') this).trans ?_
  simp only [Result.andThen_ok]
  cases vs with
  | nil => rfl
  | cons t ts =>
    cases ts with
    | nil => rfl
    | cons u us => simp [resV]
theorem getD_append_left {α : Type} (xs ys : Array α) (d : α) {i : Nat} (h : i < xs.size) : (xs ++ ys).getD i d = xs.getD i d := by
  simp [Array.getElem?_append_left h]
theorem s_fn {f : FuncId} {F : Func} {c : Code} {args rs as : List AV} {σ1 σ2 : Nat → AV} {ex : Ex} (hF : P.funcs[f]? = some F) (hc : F.body = some c) (hnm : (F.name == "runtime.NumGoroutine") = false) (hN : F.ntmps ≤ HB) (hA : args.length ≤ F.ntmps) (hK : codeOk F.ntmps c = true) (h : SCode P c (enter args) ex σ1) (hx : ex = .normal ∨ ex = .ret)
    (hr : ResL P σ1 F.results.toList as) (hT : TakeL σ1 as rs σ2) (hf : (fins args.length σ2).all noRf = true) : SFn P f args (resOf rs) (fins args.length σ2) := by
  refine ⟨⟨F, c, hF, hc, hnm⟩, ?_⟩
  intro w Sh F0 vs hargs hd hbF hbS
  have hlen : args.length = vs.length := hargs.length
  obtain ⟨Fi, g1, g2, g3, g4⟩ := hargs.foots
  let a0 : Act := { tmps := vs.toArray ++ Array.replicate (F.ntmps - vs.toArray.size) undef, defers := [] }
  let V : Nat → Value := fun t => if t < HB then a0.tmps.getD t undef else vs.getD (t - HB) undef
  let Fs : Nat → Foot := fun t => if t < HB then noF else Fi (t - HB)
  have hVt : ∀ t, HB ≤ t → V t = vs.getD (t - HB) undef := fun t ht => by simp only [V]; rw [if_neg (by omega)]
  have hσt : ∀ t, HB ≤ t → enter args t = args.getD (t - HB) .dead := fun t ht => by unfold enter; rw [if_neg (by omega)]
  have hsz : a0.tmps.size = F.ntmps := by simp only [a0, Array.size_append, Array.size_replicate, List.size_toArray]; omega
  have hhid : ∀ t, HB ≤ t → Rep w Sh KF (enter args t) (Fi (t - HB)) (V t) := by
    intro t ht
    rw [hσt t ht, hVt t ht]
    cases hi : args[t - HB]? with
    | none => simp only [List.getD_eq_getElem?_getD, hi, Option.getD_none, Rep]
    | some c =>
      obtain ⟨x, hx, hrep⟩ := g1 _ _ hi
      simp only [List.getD_eq_getElem?_getD, hi, hx, Option.getD_some]
      exact hrep
  have I0 : Inv w Sh Fs V (enter args) := by
    refine ⟨fun t => ?_, fun s t hst => ?_, fun t b o f s => ?_, fun t b o f => ?_, hbS⟩
    · by_cases ht : t < HB
      · simp only [Fs, if_pos ht]
        by_cases hta : t < args.length
        · have he : enter args t = refT (HB + t) [] (args.getD t .dead) := by unfold enter; rw [if_pos ht, if_pos hta]
          have hv : V t = V (HB + t) := by
            rw [hVt (HB + t) (by omega)]
            simp only [V, if_pos ht]
            rw [getD_append_left _ _ _ (by simp; omega)]
            simp [Nat.add_sub_cancel_left, List.getD_eq_getElem?_getD]
          have he2 : enter args (HB + t) = args.getD t .dead := by rw [hσt _ (by omega)]; simp [Nat.add_sub_cancel_left]
          rw [he, hv, ← he2]
          exact Rep.ref (HB + t) _ [] (fun _ _ h => h.elim) (hhid (HB + t) (by omega)) (fun _ _ _ h => h)
        · have : enter args t = .dead := by unfold enter; rw [if_pos ht, if_neg hta]
          rw [this]; simp only [Rep]
      · simp only [Fs, if_neg ht]
        exact Rep.wider (Le.refl _) (fun _ _ h => h.elim) (Le.refl _) (hhid t (by omega))
    · simp only [Fs]
      by_cases h1 : s < HB <;> by_cases h2 : t < HB <;> simp only [h1, h2, if_true, if_false]
      · exact Disj.no _
      · exact Disj.no' _
      · exact Disj.no _
      · exact g2 _ _ (by omega)
    · simp only [Fs] at f
      split at f
      · exact f.elim
      · exact hd b o (g3 _ b o f) s
    · simp only [Fs] at f
      split at f
      · exact f.elim
      · exact hbF b o (g3 _ b o f)
  have hTF : Le (T Fs) F0 := fun b o ⟨t, f⟩ => by
    simp only [Fs] at f
    split at f
    · exact f.elim
    · exact g3 _ b o f
  have C0 : Ctx F.ntmps V a0 := ⟨fun t ht => by simp only [V, if_pos ht], hsz, hN⟩
  refine calls_of_wp hF hc ?_
  refine (h F.ntmps w Sh Fs V a0 I0 C0 hK _ fun a' w' Sh' Fs' V' i1 i2 i3 i4 i5 => ?_).1
  obtain ⟨us, hops, hres⟩ := run_results' i1 i2 hr
  obtain ⟨Fs2, Ft2, I2, k1, k2, k3, k4, -⟩ := hT.sound i1 hops
  have hV' : ∀ i, i < args.length → vs[i]? = some (V' (HB + i)) := by
    intro i hi
    rw [i4 _ (by omega), hVt _ (by omega), Nat.add_sub_cancel_left, List.getD_eq_getElem?_getD, List.getElem?_eq_getElem (by omega)]
    rfl
  have hfin : ∀ n, n ≤ args.length → Reps w' Sh' KF (fins n σ2) (fun b o => ∃ i, i < n ∧ Fs2 (HB + i) b o) (vs.take n) := by
    intro n
    induction n with
    | zero => intro _; simp [fins, Reps]
    | succ n ih =>
      intro hn
      have e1 : fins (n + 1) σ2 = fins n σ2 ++ [σ2 (HB + n)] := by simp [fins, List.range_succ]
      have e2 : vs.take (n + 1) = vs.take n ++ [V' (HB + n)] := by
        rw [List.take_add_one, hV' n (by omega)]; rfl
      rw [e1, e2]
      have hrf : noRf (σ2 (HB + n)) = true := List.all_eq_true.1 hf _ (by simp only [fins, List.mem_map, List.mem_range]; exact ⟨n, by omega, rfl⟩)
      have hone : Reps w' Sh' KF [σ2 (HB + n)] (Fs2 (HB + n)) [V' (HB + n)] := Reps.one (Rep.noRf _ hrf (I2.rep (HB + n)))
      refine Reps.wider (Le.refl _) (fun _ _ h => h) ?_ ((ih (by omega)).append hone (fun b o ⟨i, hi, f⟩ g => I2.dis (HB + i) (HB + n) (by omega) b o f g))
      exact Le.or (fun b o ⟨i, hi, f⟩ => ⟨i, by omega, f⟩) (fun b o f => ⟨n, by omega, f⟩)
  have hfinal := hfin args.length (Nat.le_refl _)
  rw [List.take_of_length_le (by omega)] at hfinal
  have hresR : Rep w' Sh' KF (resOf rs) Ft2 (resV us) := by
    have hl := k1.length
    cases rs with
    | nil =>
      have : us = [] := List.eq_nil_of_length_eq_zero (by simpa using hl.symm)
      subst this
      simp only [resOf, resV, Rep]
      exact ⟨_, rfl, k1⟩
    | cons r rs =>
      cases rs with
      | nil =>
        obtain ⟨v, hv, hrep⟩ := k1.of_one
        rw [hv]; exact hrep
      | cons r2 rs =>
        cases us with
        | nil => simp at hl
        | cons u us =>
          cases us with
          | nil => simp at hl
          | cons u2 us =>
            simp only [resOf, resV, Rep]
            exact ⟨_, rfl, by simpa using k1⟩
  have hdis : Disj Ft2 (fun b o => ∃ i, i < args.length ∧ Fs2 (HB + i) b o) := fun b o f ⟨i, _, g⟩ => k3 _ b o f g
  have hsubT : Le (Or Ft2 (fun b o => ∃ i, i < args.length ∧ Fs2 (HB + i) b o)) (T Fs') := Le.or k4 (fun b o ⟨i, _, f⟩ => ⟨HB + i, k2 _ b o f⟩)
  have hR : ∃ v, (results F a'.tmps).run P w' = .ok v w' ∧ (∃ v_1 Sh'' F', Ending.returned v = .returned v_1 ∧ Reps w' Sh'' KF (resOf rs :: fins args.length σ2) F' (v_1 :: vs) ∧ Ext w Sh F0 w' Sh'' F' ∧ Disj F' Sh'' ∧ Bd w' F' ∧ Bd w' Sh'') := by
    refine ⟨_, hres, _, Sh', Or Ft2 (fun b o => ∃ i, i < args.length ∧ Fs2 (HB + i) b o), rfl, ?_, ?_, ?_, ?_, i1.sbd⟩
    · simp only [Reps]
      exact ⟨_, vs, _, _, rfl, hresR, hfinal, hdis, Le.left _ _, Le.right _ _⟩
    · refine ⟨i5.keeps.mono hTF, i5.sh, fun b o f => ?_, fun b o f => ?_⟩
      · rcases i5.new b o f with g | g | g
        · exact .inl g
        · exact .inr (.inl (hTF b o g))
        · exact .inr (.inr g)
      · exact (i5.own b o (hsubT b o f)).imp (hTF b o) id
    · exact (i1.tdis).le hsubT (Le.refl _)
    · exact fun b o f => i1.tbd b o (hsubT b o f)
  rcases hx with rfl | rfl <;> exact ⟨i3, hR⟩

theorem Reps.halves {K : Value → AV → Prop} : ∀ {as bs : List AV} {F : Foot} {xs : List Value}, Reps w Sh K (as ++ bs) F xs → ∃ ys zs F1 F2, xs = ys ++ zs ∧ Reps w Sh K as F1 ys ∧ Reps w Sh K bs F2 zs ∧ Disj F1 F2 ∧ Le F1 F ∧ Le F2 F
  | [], bs, F, xs, h => ⟨[], xs, noF, F, rfl, by simp [Reps], h, Disj.no' _, Le.no _, Le.refl _⟩
  | a :: as, bs, F, xs, h => by
    simp only [List.cons_append, Reps] at h
    obtain ⟨x, xs', F1, F2, rfl, h1, h2, hd, l1, l2⟩ := h
    obtain ⟨ys, zs, G1, G2, rfl, h3, h4, hd2, m1, m2⟩ := Reps.halves h2
    refine ⟨x :: ys, zs, Or F1 G1, G2, rfl, ?_, h4, Disj.or' (hd.le (Le.refl _) m2) hd2, Le.or l1 (m1.trans l2), m2.trans l2⟩
    simp only [Reps]
    exact ⟨x, ys, F1, G1, rfl, h1, h3, hd.le (Le.refl _) m1, Le.left _ _, Le.right _ _⟩
theorem s_fnT {f : FuncId} {F : Func} {c : Code} {args rs as fin : List AV} {σ1 σ2 : Nat → AV} {ex : Ex} (hF : P.funcs[f]? = some F) (hc : F.body = some c) (hnm : (F.name == "runtime.NumGoroutine") = false) (hN : F.ntmps ≤ HB) (hA : args.length ≤ F.ntmps) (hK : codeOk F.ntmps c = true) (h : SCode P c (enter args) ex σ1) (hx : ex = .normal ∨ ex = .ret)
    (hr : ResL P σ1 F.results.toList as) (hl : rs.length = as.length) (hT : TakeL σ1 (as ++ finR args.length σ1) (rs ++ fin) σ2) : SFn P f args (resOf rs) fin := by
  refine ⟨⟨F, c, hF, hc, hnm⟩, ?_⟩
  intro w Sh F0 vs hargs hd hbF hbS
  have hlen : args.length = vs.length := hargs.length
  obtain ⟨Fi, g1, g2, g3, g4⟩ := hargs.foots
  let a0 : Act := { tmps := vs.toArray ++ Array.replicate (F.ntmps - vs.toArray.size) undef, defers := [] }
  let V : Nat → Value := fun t => if t < HB then a0.tmps.getD t undef else vs.getD (t - HB) undef
  let Fs : Nat → Foot := fun t => if t < HB then noF else Fi (t - HB)
  have hVt : ∀ t, HB ≤ t → V t = vs.getD (t - HB) undef := fun t ht => by simp only [V]; rw [if_neg (by omega)]
  have hσt : ∀ t, HB ≤ t → enter args t = args.getD (t - HB) .dead := fun t ht => by unfold enter; rw [if_neg (by omega)]
  have hsz : a0.tmps.size = F.ntmps := by simp only [a0, Array.size_append, Array.size_replicate, List.size_toArray]; omega
  have hhid : ∀ t, HB ≤ t → Rep w Sh KF (enter args t) (Fi (t - HB)) (V t) := by
    intro t ht
    rw [hσt t ht, hVt t ht]
    cases hi : args[t - HB]? with
    | none => simp only [List.getD_eq_getElem?_getD, hi, Option.getD_none, Rep]
    | some c =>
      obtain ⟨x, hx, hrep⟩ := g1 _ _ hi
      simp only [List.getD_eq_getElem?_getD, hi, hx, Option.getD_some]
      exact hrep
  have I0 : Inv w Sh Fs V (enter args) := by
    refine ⟨fun t => ?_, fun s t hst => ?_, fun t b o f s => ?_, fun t b o f => ?_, hbS⟩
    · by_cases ht : t < HB
      · simp only [Fs, if_pos ht]
        by_cases hta : t < args.length
        · have he : enter args t = refT (HB + t) [] (args.getD t .dead) := by unfold enter; rw [if_pos ht, if_pos hta]
          have hv : V t = V (HB + t) := by
            rw [hVt (HB + t) (by omega)]
            simp only [V, if_pos ht]
            rw [getD_append_left _ _ _ (by simp; omega)]
            simp [Nat.add_sub_cancel_left, List.getD_eq_getElem?_getD]
          have he2 : enter args (HB + t) = args.getD t .dead := by rw [hσt _ (by omega)]; simp [Nat.add_sub_cancel_left]
          rw [he, hv, ← he2]
          exact Rep.ref (HB + t) _ [] (fun _ _ h => h.elim) (hhid (HB + t) (by omega)) (fun _ _ _ h => h)
        · have : enter args t = .dead := by unfold enter; rw [if_pos ht, if_neg hta]
          rw [this]; simp only [Rep]
      · simp only [Fs, if_neg ht]
        exact Rep.wider (Le.refl _) (fun _ _ h => h.elim) (Le.refl _) (hhid t (by omega))
    · simp only [Fs]
      by_cases h1 : s < HB <;> by_cases h2 : t < HB <;> simp only [h1, h2, if_true, if_false]
      · exact Disj.no _
      · exact Disj.no' _
      · exact Disj.no _
      · exact g2 _ _ (by omega)
    · simp only [Fs] at f
      split at f
      · exact f.elim
      · exact hd b o (g3 _ b o f) s
    · simp only [Fs] at f
      split at f
      · exact f.elim
      · exact hbF b o (g3 _ b o f)
  have hTF : Le (T Fs) F0 := fun b o ⟨t, f⟩ => by
    simp only [Fs] at f
    split at f
    · exact f.elim
    · exact g3 _ b o f
  have C0 : Ctx F.ntmps V a0 := ⟨fun t ht => by simp only [V, if_pos ht], hsz, hN⟩
  refine calls_of_wp hF hc ?_
  refine (h F.ntmps w Sh Fs V a0 I0 C0 hK _ fun a' w' Sh' Fs' V' i1 i2 i3 i4 i5 => ?_).1
  obtain ⟨us, hops, hres⟩ := run_results' i1 i2 hr
  have hV' : ∀ i, i < args.length → vs[i]? = some (V' (HB + i)) := by
    intro i hi
    rw [i4 _ (by omega), hVt _ (by omega), Nat.add_sub_cancel_left, List.getD_eq_getElem?_getD, List.getElem?_eq_getElem (by omega)]
    rfl
  have hfin : ∀ n, n ≤ args.length → Reps w' Sh' (KS w' V' σ1) (finR n σ1) noF (vs.take n) := by
    intro n
    induction n with
    | zero => intro _; simp [finR, Reps]
    | succ n ih =>
      intro hn
      have e1 : finR (n + 1) σ1 = finR n σ1 ++ [refT (HB + n) [] (σ1 (HB + n))] := by simp [finR, List.range_succ]
      have e2 : vs.take (n + 1) = vs.take n ++ [V' (HB + n)] := by
        rw [List.take_add_one, hV' n (by omega)]; rfl
      rw [e1, e2]
      exact Reps.wider (Le.refl _) (fun _ _ h => h) (Le.or (Le.refl _) (Le.refl _)) ((ih (by omega)).append (Reps.one (i1.ref (HB + n))) (Disj.no _))
  have hall := hfin args.length (Nat.le_refl _)
  rw [List.take_of_length_le (by omega)] at hall
  obtain ⟨Fs2, Ft0, I2, k0, k2, k3, k4, -⟩ := hT.sound i1 (Reps.wider (Le.refl _) (fun _ _ h => h) (Le.or (Le.refl _) (Le.refl _)) (hops.append hall (Disj.no _)))
  obtain ⟨us1, vs1, Ft2, Ft3, e1, k1, k5, hdis, l1, l2⟩ := Reps.halves k0
  have hul : us.length = us1.length := by
    have a1 := k1.length; have a2 := hops.length; omega
  obtain ⟨rfl, rfl⟩ := List.append_inj e1 hul
  have hresR : Rep w' Sh' KF (resOf rs) Ft2 (resV us) := by
    have hl := k1.length
    cases rs with
    | nil =>
      have : us = [] := List.eq_nil_of_length_eq_zero (by simpa using hl.symm)
      subst this
      simp only [resOf, resV, Rep]
      exact ⟨_, rfl, k1⟩
    | cons r rs =>
      cases rs with
      | nil =>
        obtain ⟨v, hv, hrep⟩ := k1.of_one
        rw [hv]; exact hrep
      | cons r2 rs =>
        cases us with
        | nil => simp at hl
        | cons u us =>
          cases us with
          | nil => simp at hl
          | cons u2 us =>
            simp only [resOf, resV, Rep]
            exact ⟨_, rfl, by simpa using k1⟩
  have hsubT : Le (Or Ft2 Ft3) (T Fs') := (Le.or l1 l2).trans k4
  have hR : ∃ v, (results F a'.tmps).run P w' = .ok v w' ∧ (∃ v_1 Sh'' F', Ending.returned v = .returned v_1 ∧ Reps w' Sh'' KF (resOf rs :: fin) F' (v_1 :: vs) ∧ Ext w Sh F0 w' Sh'' F' ∧ Disj F' Sh'' ∧ Bd w' F' ∧ Bd w' Sh'') := by
    refine ⟨_, hres, _, Sh', Or Ft2 Ft3, rfl, ?_, ?_, ?_, ?_, i1.sbd⟩
    · simp only [Reps]
      exact ⟨_, vs, _, _, rfl, hresR, k5, hdis, Le.left _ _, Le.right _ _⟩
    · refine ⟨i5.keeps.mono hTF, i5.sh, fun b o f => ?_, fun b o f => ?_⟩
      · rcases i5.new b o f with g | g | g
        · exact .inl g
        · exact .inr (.inl (hTF b o g))
        · exact .inr (.inr g)
      · exact (i5.own b o (hsubT b o f)).imp (hTF b o) id
    · exact (i1.tdis).le hsubT (Le.refl _)
    · exact fun b o f => i1.tbd b o (hsubT b o f)
  rcases hx with rfl | rfl <;> exact ⟨i3, hR⟩

theorem Reps.deads : ∀ {cs cs' : List AV} {F : Foot} {xs : List Value}, cs.length = cs'.length → (∀ i : Nat, cs'[i]? = cs[i]? ∨ cs'[i]? = some AV.dead) → Reps w Sh KF cs F xs → Reps w Sh KF cs' F xs
  | [], [], F, xs, hl, hd, h => h
  | [], _ :: _, F, xs, hl, hd, h => by simp at hl
  | _ :: _, [], F, xs, hl, hd, h => by simp at hl
  | c :: cs, c' :: cs', F, xs, hl, hd, h => by
    simp only [Reps] at h ⊢
    obtain ⟨x, xs', F1, F2, e, h1, h2, hdd, l1, l2⟩ := h
    refine ⟨x, xs', F1, F2, e, ?_, Reps.deads (by simpa using hl) (fun i => by simpa using hd (i + 1)) h2, hdd, l1, l2⟩
    rcases hd 0 with h0 | h0
    · simp only [List.getElem?_cons_zero, Option.some.injEq] at h0; rw [h0]; exact h1
    · simp only [List.getElem?_cons_zero, Option.some.injEq] at h0; rw [h0]; simp only [Rep]
theorem s_fnDead {f : FuncId} {args fin fin' : List AV} {res : AV} (h : SFn P f args res fin) (hd : fin.length = fin'.length ∧ ∀ i : Nat, fin'[i]? = fin[i]? ∨ fin'[i]? = some AV.dead) : SFn P f args res fin' := by
  refine ⟨h.1, fun w Sh F vs h1 h2 h3 h4 => (h.2 w Sh F vs h1 h2 h3 h4).mono fun e w' ⟨v, Sh', F', r1, r2, r3⟩ => ⟨v, Sh', F', r1, ?_, r3⟩⟩
  exact Reps.deads (by simpa using hd.1) (fun i => by
    cases i with
    | zero => exact .inl rfl
    | succ i => simpa using hd.2 i) r2

theorem CutL.reps {K : Value → AV → Prop} {as bs : List AV} (h : CutL as bs) : ∀ {F : Foot} {vs : List Value}, Reps w Sh K bs F vs → Reps w Sh K as F vs := by
  induction h with
  | nil => exact fun h => h
  | same a k ih =>
    intro F vs hr
    simp only [Reps] at hr ⊢
    obtain ⟨x, xs', F1, F2, e, h1, h2, r⟩ := hr
    exact ⟨x, xs', F1, F2, e, h1, ih h2, r⟩
  | cut cs rest k ih =>
    intro F vs hr
    simp only [Reps] at hr ⊢
    obtain ⟨x, xs', F1, F2, e, h1, h2, r⟩ := hr
    refine ⟨x, xs', F1, F2, e, ?_, ih h2, r⟩
    simp only [Rep] at h1 ⊢
    obtain ⟨ad, xs, e1, hc, h1', hrr⟩ := h1
    obtain ⟨ys, zs, G1, G2, rfl, k1, -, -, l1, -⟩ := Reps.halves hrr
    exact ⟨ad, ys, e1, fun j u hj => hc j u (by rw [List.getElem?_append_left (List.getElem?_eq_some_iff.1 hj).1]; exact hj), fun u hu => h1' u (List.mem_append_left _ hu), Reps.wider (Le.refl _) (fun _ _ h => h) l1 k1⟩
theorem s_fnArg {f : FuncId} {args args' fin : List AV} {res : AV} (h : SFn P f args res fin) (hl : CutL args args') : SFn P f args' res fin :=
  ⟨h.1, fun w Sh F vs h1 h2 h3 h4 => h.2 w Sh F vs (hl.reps h1) h2 h3 h4⟩

/-- THE SOUNDNESS OF THE RELATION. -/
theorem Ev.sound {X : FuncId → List AV → AV → List AV → Prop} (hm : P.follows .mixedOrders = true) (hX : ∀ f args res fin, X f args res fin → SFn P f args res fin) {j : Job} (h : Ev P X j) : Sound P j := by
  induction h with
  | qo h => exact s_qo h
  | qcall ho ha hf hn ih => exact s_qcall ho ha ih hn
  | quiet h ih => exact s_quiet ih
  | take ho hd h => exact s_take ho hd h
  | store ho hx hr h hv hs hS => exact s_store ho hx hr h hv hs hS
  | box ho hd h hc => exact s_box ho hd h hc
  | boxH ho hd hr ha hb hh h h1 hl hc => exact s_boxH ho hd hr ha hb hh h h1 hl hc
  | buildS ho hd ht hs hz hzs h0 hl h1 h hf => exact s_buildS ho hd ht hs hz hzs h0 hl h1 h hf
  | appendC ho hd ht hs hb hz hzs h0 h hB hc hL h63 hby => exact s_appendC ho hd ht hs hb hz hzs h0 h hB hc hL h63 hby
  | appendZ ho hd ht htn hs hb hz hzs h0 h1 h hB hx h63 hby => exact s_appendZ ho hd ht htn hs hb hz hzs h0 h1 h hB hx h63 hby
  | appendN ho hd ht hs h hB hc => exact s_appendN ho hd ht hs h hB hc
  | appendM ho hd ht hs hb hz hzs h0 h hB h63 hby => exact s_appendM ho hd ht hs hb hz hzs h0 h hB h63 hby
  | call ho hp hf hn hs hb ih => exact s_call ho hp ih hn hs hb
  | opsNil all σ => exact fun N w Sh Fs V a I hC _ Q hn => hn.here I hC
  | opsCons hg h k ih1 ih2 => exact s_opsCons hg ih1 ih2
  | opsSkip hg k ih => exact s_opsSkip hg ih
  | opsDrop hd k ih => exact fun N w Sh Fs V a I hC hk Q hn => ih N w Sh Fs V a (I.drop hd) hC hk Q hn
  | opsHard hn hx k ih =>
    intro N w Sh Fs V a I hC hk Q hnx
    obtain ⟨Sh', Fs', I', hE⟩ := I.hardS hn hx
    exact ih N w Sh' Fs' V a I' hC hk Q (hnx.trans rfl (fun _ _ => rfl) hE)
  | opsCast hn hx k ih =>
    intro N w Sh Fs V a I hC hk Q hnx
    obtain ⟨Fs', I', hE⟩ := I.castS hn hx
    exact ih N w Sh Fs' V a I' hC hk Q (hnx.trans rfl (fun _ _ => rfl) hE)
  | drNil all anc quiet gen σ => rfl
  | @drQuiet all anc quiet gen i d l o σ σ2 av hi hq hq2 hd hg h h1 h2 h3 k ih1 ih2 =>
    refine ⟨over [d] (fun _ => av) σ, .inl ⟨o, [d], fun _ => av, ⟨hi, fun t ht => by rw [hd, hq2]; simpa using ht, fun d' hd' => by rw [hd] at hd'; cases hd'; exact ⟨h1, h2, fun _ => by rw [hq2]; exact h3⟩, fun t ht => (by rw [hq2] at ht; cases ht), fun h => (by rw [hq2] at h; cases h), .inl ⟨hq, .inl ⟨d, av, hd, hg, ih1, rfl, rfl⟩⟩⟩, rfl⟩, ?_⟩
    have e : over [d] (fun _ => av) σ = upd σ d av := by
      funext t
      by_cases e : t = d
      · subst e; rw [upd_same]; simp [over]
      · rw [upd_ne _ _ _ e]; simp [over, e]
    rw [e]; exact ih2
  | @drQuietN all anc quiet gen i l o σ σ2 av hi hq hq2 hd hg h k ih1 ih2 =>
    exact ⟨over [] (fun _ => av) σ, .inl ⟨o, [], fun _ => av, ⟨hi, fun t ht => by simp at ht, fun d' hd' => (by rw [hd] at hd'; cases hd'), fun t ht => (by rw [hq2] at ht; cases ht), fun h => (by rw [hq2] at h; cases h), .inl ⟨hq, .inr (.inl ⟨_, hd, hg, ih1, rfl⟩)⟩⟩, rfl⟩, ih2⟩
  | @drSkip all anc quiet gen i d l o σ σ2 hi hq hq2 hd hg h1 h2 k ih =>
    refine ⟨over [d] (fun _ => .tu []) σ, .inl ⟨o, [d], fun _ => .tu [], ⟨hi, fun t ht => by rw [hd, hq2]; simpa using ht, fun d' hd' => by rw [hd] at hd'; cases hd'; exact ⟨h1, h2, fun _ => rfl⟩, fun t ht => (by rw [hq2] at ht; cases ht), fun h => (by rw [hq2] at h; cases h), .inl ⟨hq, .inr (.inr ⟨d, hd, hg, rfl, rfl⟩)⟩⟩, rfl⟩, ?_⟩
    have e : over [d] (fun _ => AV.tu []) σ = upd σ d (.tu []) := by
      funext t
      by_cases e : t = d
      · subst e; rw [upd_same]; simp [over]
      · rw [upd_ne _ _ _ e]; simp [over, e]
    rw [e]; exact ih
  | @drGen all anc quiet gen i l T o σ τ' σ2 hi hq hT h hb hd ht hc k ih1 ih2 =>
    refine ⟨_, .inl ⟨o, o.dst.toList ++ T, τ', ⟨hi, fun t h => by rw [hT]; exact h, fun d hd' => ⟨(hd d hd').1, (hd d hd').2.1, fun _ => by rw [hT]; exact (hd d hd').2.2⟩, fun t h => (by rw [hT] at h; exact ⟨(ht t h).1, fun _ => (ht t h).2⟩), fun _ => hc, .inr ⟨hq, T, hT, ih1, rfl, hb⟩⟩, rfl⟩, ih2⟩
  | drMut hi hq hq2 h k ih1 ih2 => exact ⟨_, .inr ⟨_, hi, hq, hq2, ih1⟩, ih2⟩
  | skip σ => exact fun N w Sh Fs V a I hC _ Q hn => ⟨wp_skip (hn.here I hC), fun _ e => by cases e⟩
  | region h ih => exact fun N w Sh Fs V a I hC hk Q hn => ⟨wp_region_list (ih N w Sh Fs V a I hC (dok_all hk) Q hn), fun _ e => by cases e⟩
  | @regionD id ops anc quiet gen σ σ' ho h ih =>
    intro N w Sh Fs V a I hC hk Q hn
    refine ⟨wp_region_any hm ?_, fun _ e => by cases e⟩
    have hall : rest ops.size (Array.replicate ops.size false) = List.range ops.size := by
      unfold rest
      rw [List.filter_eq_self]
      intro i hi
      have := List.mem_range.1 hi
      simp [this]
    have hk' := dok_all hk
    have I' : Inv { w with drawn := w.drawn + 1 } Sh Fs V σ := I.frame (Keeps.drew w (w.drawn + 1)) (fun _ => Disj.no' _) (Disj.no _) (Le.refl _) I.shd I.sbd
    refine drawn_any ho (fun i o hio => List.all_eq_true.1 hk' o (Array.mem_toList_iff.2 (Array.mem_of_getElem? hio))) ops.size _ (by rw [hall]; simp) (by simp) (fun k hk => ?_) I' hC (by rw [hall]; exact ih) ?_
    · exfalso
      rw [Array.getD_eq_getD_getElem?] at hk
      by_cases hlt : k < ops.size
      · simp [hlt] at hk
      · simp [hlt] at hk
    · exact hn.trans rfl (fun _ _ => rfl) ⟨(Keeps.drew w (w.drawn + 1)).mono (Le.no _), Le.refl _, fun b o f => .inl f, fun b o f => .inl f⟩
  | seqN h k ih1 ih2 =>
    intro N w Sh Fs V a I hC hk Q hn
    simp only [codeOk, Bool.and_eq_true] at hk
    refine ⟨wp_seq (ih1 N w Sh Fs V a I hC hk.1 _ fun a' w' Sh' Fs' V' i1 i2 i3 i4 i5 => ?_).1, fun _ e => by cases e⟩
    exact (ih2 N w' Sh' Fs' V' a' i1 i2 hk.2 Q (hn.trans i3 i4 i5)).1
  | seqX h hx ih =>
    intro N w Sh Fs V a I hC hk Q hn
    simp only [codeOk, Bool.and_eq_true] at hk
    refine ⟨wp_seq (ih N w Sh Fs V a I hC hk.1 _ fun a' w' Sh' Fs' V' i1 i2 i3 i4 i5 => ?_).1, fun _ e => by cases e⟩
    rw [ex_then hx]
    exact hn a' w' Sh' Fs' V' i1 i2 i3 i4 i5
  | @cond c x y σ σ1 ex t hc h ih =>
    intro N w Sh Fs V a I hC hk Q hn
    simp only [codeOk, Bool.and_eq_true] at hk
    refine ⟨wp_cond (ov_int I hC.va hc) ?_, fun _ e => by cases e⟩
    cases t
    · exact (ih N w Sh Fs V a I hC hk.2 Q hn).1
    · exact (ih N w Sh Fs V a I hC hk.1 Q hn).1
  | block h ih =>
    intro N w Sh Fs V a I hC hk Q hn
    simp only [codeOk] at hk
    refine ⟨wp_block (ih N w Sh Fs V a I hC hk _ fun a' w' Sh' Fs' V' i1 i2 i3 i4 i5 => ?_).1, fun _ e => by cases e⟩
    rw [ex_inB]
    exact hn a' w' Sh' Fs' V' i1 i2 i3 i4 i5
  | loopN h k ih1 ih2 =>
    intro N w Sh Fs V a I hC hk Q hn
    simp only [codeOk] at hk
    have hL := LW_step (Q := Q) (ih1 N w Sh Fs V a I hC hk _ fun a' w' Sh' Fs' V' i1 i2 i3 i4 i5 =>
      (ih2 N w' Sh' Fs' V' a' i1 i2 (by simpa only [codeOk] using hk) Q (hn.trans i3 i4 i5)).2 _ rfl).1
    exact ⟨loop_of_LW hL, fun c' e => by cases e; exact hL⟩
  | loopX h hx ih =>
    intro N w Sh Fs V a I hC hk Q hn
    simp only [codeOk] at hk
    have hL := LW_step (Q := Q) (ih N w Sh Fs V a I hC hk _ fun a' w' Sh' Fs' V' i1 i2 i3 i4 i5 => by
      rw [ex_then hx]
      exact hn a' w' Sh' Fs' V' i1 i2 i3 i4 i5).1
    exact ⟨loop_of_LW hL, fun c' e => by cases e; exact hL⟩
  | exit id σ => exact fun N w Sh Fs V a I hC _ Q hn => ⟨wp_exit (hn.here I hC), fun _ e => by cases e⟩
  | ret σ => exact fun N w Sh Fs V a I hC _ Q hn => ⟨wp_ret (hn.here I hC), fun _ e => by cases e⟩
  | drop hd k ih => exact fun N w Sh Fs V a I hC hk Q hn => ih N w Sh Fs V a (I.drop hd) hC hk Q hn
  | dropP k hd ih => exact fun N w Sh Fs V a I hC hk Q hn => ih N w Sh Fs V a I hC hk Q fun a' w' Sh' Fs' V' i1 i2 i3 i4 i5 => hn a' w' Sh' Fs' V' (i1.drop hd) i2 i3 i4 i5
  | hard hn hx k ih =>
    intro N w Sh Fs V a I hC hk Q hnx
    obtain ⟨Sh', Fs', I', hE⟩ := I.hardS hn hx
    exact ih N w Sh' Fs' V a I' hC hk Q (hnx.trans rfl (fun _ _ => rfl) hE)
  | cast hn hx k ih =>
    intro N w Sh Fs V a I hC hk Q hnx
    obtain ⟨Fs', I', hE⟩ := I.castS hn hx
    exact ih N w Sh Fs' V a I' hC hk Q (hnx.trans rfl (fun _ _ => rfl) hE)
  | fn hF hc hnm hN hA hK h hx hr hT hf ih => exact s_fn hF hc hnm hN hA hK ih hx hr hT hf
  | fnT hF hc hnm hN hA hK h hx hr hl hT ih => exact s_fnT hF hc hnm hN hA hK ih hx hr hl hT
  | fnDead h hd ih => exact s_fnDead ih hd
  | fnArg h hl ih => exact s_fnArg ih hl
  | ext h => exact hX _ _ _ _ h
end
end Go.Eng
#print axioms Go.Eng.Ev.sound
