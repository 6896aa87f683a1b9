/- The engine, part C: the registers: what they hold together, and how they are put, turned and let go. -/
import Derived.Test.YtdihagagelngiaaEngB
namespace Go.Eng
open Go
set_option linter.unusedVariables false
set_option linter.unusedSimpArgs false

def VwOk (h v : Value) (off n : Nat) : Prop :=
  ∃ A m cap, h = .slice A m cap ∧ (off = 0 → v = .slice A n cap ∧ n ≤ cap) ∧ (off ≠ 0 → ∃ A' c, v = .slice A' n c ∧ n ≤ c ∧ (n ≠ 0 → A' = A.map (·.add off)))
def AdOk (h v : Value) (i : Nat) : Prop := ∃ ad, v = .pointer (some (ad.add i)) ∧ (h = .pointer (some ad) ∨ ∃ m cap, h = .slice (some ad) m cap)
/-- What a reference must be, where its path leads to something. -/
def KS (w : World) (V : Nat → Value) (σ : Nat → AV) (v : Value) : AV → Prop
  | .vw r p off n => ∀ h x, At w (V r) (σ r) p h x → VwOk h v off n
  | .ad r p i => ∀ h x, At w (V r) (σ r) p h x → AdOk h v i
  | _ => True

mutual
def mask (bad : Nat → List Nat → Bool) : AV → AV
  | .vw r p off n => bif bad r p then .dead else .vw r p off n
  | .ad r p i => bif bad r p then .dead else .ad r p i
  | .ag cs => .ag (maskL bad cs)
  | .tu cs => .tu (maskL bad cs)
  | a => a
def maskL (bad : Nat → List Nat → Bool) : List AV → List AV
  | [] => []
  | c :: cs => mask bad c :: maskL bad cs
end
theorem maskL_get (bad : Nat → List Nat → Bool) : ∀ (cs : List AV) (j : Nat), (maskL bad cs)[j]? = (cs[j]?).map (mask bad)
  | [], j => by simp [maskL]
  | c :: cs, 0 => by simp [maskL]
  | c :: cs, j + 1 => by simp [maskL, maskL_get bad cs j]

section
variable {w : World} {Sh : Foot} {K K' : Value → AV → Prop}
mutual
theorem Rep.mask (bad : Nat → List Nat → Bool) (hv : ∀ v r p off n, K v (.vw r p off n) → bad r p = false → K' v (.vw r p off n)) (ha : ∀ v r p i, K v (.ad r p i) → bad r p = false → K' v (.ad r p i)) : ∀ (a : AV) {F : Foot} {v : Value}, Rep w Sh K a F v → Rep w Sh K' (Eng.mask bad a) F v
  | .sc u, _, _, h => h
  | .nl, _, _, h => h
  | .im n cs, _, _, h => h
  | .ow e sz n cs, _, _, h => h
  | .ip cs, _, _, h => h
  | .op cs, _, _, h => h
  | .dead, _, _, h => h
  | .vw r p off n, _, _, h => by
    simp only [Eng.mask]
    cases hb : bad r p
    · simp only [cond_false, Rep] at h ⊢
      exact ⟨hv _ _ _ _ _ h.1 hb, h.2⟩
    · simp only [cond_true, Rep]
  | .ad r p i, _, _, h => by
    simp only [Eng.mask]
    cases hb : bad r p
    · simp only [cond_false, Rep] at h ⊢
      exact ⟨ha _ _ _ _ h.1 hb, h.2⟩
    · simp only [cond_true, Rep]
  | .ag cs, _, _, h => by
    simp only [Eng.mask, Rep] at h ⊢
    obtain ⟨xs, e, h1, hr⟩ := h
    exact ⟨xs, e, h1, Reps.mask bad hv ha cs hr⟩
  | .tu cs, _, _, h => by
    simp only [Eng.mask, Rep] at h ⊢
    obtain ⟨xs, e, hr⟩ := h
    exact ⟨xs, e, Reps.mask bad hv ha cs hr⟩
theorem Reps.mask (bad : Nat → List Nat → Bool) (hv : ∀ v r p off n, K v (.vw r p off n) → bad r p = false → K' v (.vw r p off n)) (ha : ∀ v r p i, K v (.ad r p i) → bad r p = false → K' v (.ad r p i)) : ∀ (cs : List AV) {F : Foot} {xs : List Value}, Reps w Sh K cs F xs → Reps w Sh K' (maskL bad cs) F xs
  | [], _, _, h => by simpa only [maskL, Reps] using h
  | c :: cs, _, _, h => by
    simp only [maskL, Reps] at h ⊢
    obtain ⟨x, xs', F1, F2, e, h1, h2, hd, l1, l2⟩ := h
    exact ⟨x, xs', F1, F2, e, Rep.mask bad hv ha c h1, Reps.mask bad hv ha cs h2, hd, l1, l2⟩
end
end
theorem At.unmask {w : World} {bad : Nat → List Nat → Bool} : ∀ (q : List Nat) {v : Value} {a : AV} {h : Value} {x : AV}, At w v (mask bad a) q h x → ∃ x', At w v a q h x'
  | [], v, a, h, x, k => by rw [k.nil_eq rfl]; exact ⟨_, .nil _ _⟩
  | j :: q, v, a, h, x, k => by
    cases a with
    | vw r p off n => simp only [mask] at k; cases hb : bad r p <;> simp only [hb, cond_true, cond_false] at k <;> cases k
    | ad r p i => simp only [mask] at k; cases hb : bad r p <;> simp only [hb, cond_true, cond_false] at k <;> cases k
    | ag cs =>
      simp only [mask] at k
      cases k with
      | ag hc hu hp =>
        rw [maskL_get, Option.map_eq_some_iff] at hc
        obtain ⟨c, hc, rfl⟩ := hc
        obtain ⟨x', hx⟩ := At.unmask q hp
        exact ⟨x', .ag hc hu hx⟩
    | tu cs =>
      simp only [mask] at k
      cases k with
      | tu hc hu hp =>
        rw [maskL_get, Option.map_eq_some_iff] at hc
        obtain ⟨c, hc, rfl⟩ := hc
        obtain ⟨x', hx⟩ := At.unmask q hp
        exact ⟨x', .tu hc hu hx⟩
    | ow e sz n cs => exact ⟨_, k⟩
    | op cs => exact ⟨_, k⟩
    | sc u => cases k
    | nl => cases k
    | im n cs => cases k
    | ip cs => cases k
    | dead => cases k

def upd {α : Type} (f : Nat → α) (d : Nat) (x : α) : Nat → α := fun t => if t = d then x else f t
theorem upd_same {α : Type} (f : Nat → α) (d : Nat) (x : α) : upd f d x d = x := by simp [upd]
theorem upd_ne {α : Type} (f : Nat → α) (d : Nat) (x : α) {t : Nat} (h : t ≠ d) : upd f d x t = f t := by simp [upd, h]

/-- What the registers hold, each apart from the others and from what is only read. -/
structure Inv (w : World) (Sh : Foot) (Fs : Nat → Foot) (V : Nat → Value) (σ : Nat → AV) : Prop where
  rep : ∀ r, Rep w Sh (KS w V σ) (σ r) (Fs r) (V r)
  dis : ∀ r s, r ≠ s → Disj (Fs r) (Fs s)
  shd : ∀ r, Disj (Fs r) Sh
  bnd : ∀ r b o, Fs r b o → b < w.heap.size
  sbd : ∀ b o, Sh b o → b < w.heap.size

section
variable {w w' : World} {Sh Sh' : Foot} {Fs : Nat → Foot} {V : Nat → Value} {σ : Nat → AV}

/-- A register is put anew (in a world that may have turned elsewhere). -/
def isR (d : Nat) : Nat → List Nat → Bool := fun r _ => r == d
def put (σ : Nat → AV) (d : Nat) (av : AV) : Nat → AV := fun t => mask (isR d) (upd σ d av t)
theorem Inv.put (I : Inv w Sh Fs V σ) {G : Foot} (k : Keeps G w w') (hG : ∀ t, Disj G (Fs t)) (hS : Disj Sh G) (hSS : Le Sh Sh') {d : Nat} {av : AV} {Fd : Foot} {v : Value}
    (hr : Rep w' Sh' (KS w V σ) av Fd v) (hd : ∀ t, t ≠ d → Disj Fd (Fs t)) (hs : Disj Fd Sh') (hs' : ∀ t, t ≠ d → Disj (Fs t) Sh') (hb : ∀ b o, Fd b o → b < w'.heap.size) (hb' : ∀ b o, Sh' b o → b < w'.heap.size) :
    Inv w' Sh' (upd Fs d Fd) (upd V d v) (Eng.put σ d av) := by
  have hat : ∀ r q h x, r ≠ d → At w' (upd V d v r) (Eng.put σ d av r) q h x → ∃ x', At w (V r) (σ r) q h x' := by
    intro r q h x hrd hx
    simp only [Eng.put, upd_ne _ _ _ hrd] at hx
    obtain ⟨x', hx'⟩ := At.unmask q hx
    exact ⟨x', hx'.frame k (I.rep r) (hG r)⟩
  have hv : ∀ v0 r p off n, KS w V σ v0 (.vw r p off n) → isR d r p = false → KS w' (upd V d v) (Eng.put σ d av) v0 (.vw r p off n) := by
    intro v0 r p off n hk hb h x hx
    have hrd : r ≠ d := by simpa [isR] using hb
    obtain ⟨x', hx'⟩ := hat r p h x hrd hx
    exact hk h x' hx'
  have ha : ∀ v0 r p i, KS w V σ v0 (.ad r p i) → isR d r p = false → KS w' (upd V d v) (Eng.put σ d av) v0 (.ad r p i) := by
    intro v0 r p i hk hb h x hx
    have hrd : r ≠ d := by simpa [isR] using hb
    obtain ⟨x', hx'⟩ := hat r p h x hrd hx
    exact hk h x' hx'
  refine ⟨fun r => ?_, fun r s hrs => ?_, fun r => ?_, fun r b o f => ?_, hb'⟩
  · by_cases e : r = d
    · subst e
      simp only [Eng.put, upd_same]
      exact Rep.mask _ hv ha av hr
    · simp only [Eng.put, upd_ne _ _ _ e]
      exact Rep.mask _ hv ha (σ r) (Rep.frame k hS hSS (σ r) (fun _ _ x => x) (hG r) (Le.refl _) (I.rep r))
  · by_cases e : r = d
    · subst e
      rw [upd_same, upd_ne _ _ _ (Ne.symm hrs)]
      exact hd s (Ne.symm hrs)
    · rw [upd_ne _ _ _ e]
      by_cases e2 : s = d
      · subst e2; rw [upd_same]; exact (hd r e).symm
      · rw [upd_ne _ _ _ e2]; exact I.dis r s hrs
  · by_cases e : r = d
    · subst e; rw [upd_same]; exact hs
    · rw [upd_ne _ _ _ e]; exact hs' r e
  · by_cases e : r = d
    · subst e; rw [upd_same] at f; exact hb b o f
    · rw [upd_ne _ _ _ e] at f; exact Nat.lt_of_lt_of_le (I.bnd r b o f) k.size

/-- A part of what a register owns is turned; bad tells the references that are let go by it. -/
def modS (σ : Nat → AV) (r : Nat) (p : List Nat) (bad : Nat → List Nat → Bool) (x : AV) : Nat → AV := fun t => mask bad (upd σ r (setN p (σ r) x) t)
theorem Inv.mod (I : Inv w Sh Fs V σ) {r : Nat} {p : List Nat} {x : AV} (hx : getN p (σ r) = some x) :
    ∃ f u Fx Fr, FK f ∧ Rep w Sh (f (KS w V σ)) x Fx u ∧ At w (V r) (σ r) p u x ∧ Disj Fx Fr ∧ Le Fx (Fs r) ∧ Le Fr (Fs r) ∧
      ∀ {w' : World} {Sh' G Fx' : Foot} {x' : AV} {bad : Nat → List Nat → Bool}, Keeps G w w' → Disj G Fr → (∀ t, t ≠ r → Disj G (Fs t)) → Disj Sh G → Le Sh Sh' → (∀ t, t ≠ r → Disj (Fs t) Sh') → Disj Fr Sh' →
        Rep w' Sh' KF x' Fx' u → Disj Fx' Fr → (∀ t, t ≠ r → Disj Fx' (Fs t)) → Disj Fx' Sh' → (∀ b o, Fx' b o → b < w'.heap.size) → (∀ b o, Sh' b o → b < w'.heap.size) →
        (∀ j t h y, bad r (p ++ j :: t) = false → At w' u x' (j :: t) h y → ∃ y', At w u x (j :: t) h y') →
        Inv w' Sh' (upd Fs r (Or Fr Fx')) V (modS σ r p bad x') ∧ (∀ r' q h y, bad r' q = false → At w' (V r') (modS σ r p bad x' r') q h y → ∃ y', At w (V r') (σ r') q h y') := by
  obtain ⟨f, u, Fx, Fr, hf, h1, h2, h3, h4, h5, h6, h7⟩ := Rep.deep p (I.rep r) hx
  refine ⟨f, u, Fx, Fr, hf, h1, h2, h3, h4, h5, ?_⟩
  intro w' Sh' G Fx' x' bad k hG1 hG2 hS hSS hsh hsr hrep hd1 hd2 hd3 hb hb' hbad
  obtain ⟨s1, s2, s3⟩ := h6 (K' := KS w V σ) k hG1 hS hSS (fun _ _ x => x) (Rep.wider (Le.refl _) hf.kf (Le.refl _) hrep) hd1
  have hat : ∀ r' q h y, bad r' q = false → At w' (V r') (modS σ r p bad x' r') q h y → ∃ y', At w (V r') (σ r') q h y' := by
    intro r' q h y hbd hy
    obtain ⟨y1, hy1⟩ := At.unmask q hy
    by_cases e : r' = r
    · subst e
      rw [upd_same] at hy1
      by_cases hu : Under p q
      · obtain ⟨j, t, rfl⟩ := hu
        obtain ⟨y2, hy2⟩ := hbad j t h y1 hbd (s3 _ _ _ hy1)
        exact ⟨y2, h7 _ _ _ hy2⟩
      · exact s2 q h y1 hu hy1
    · rw [upd_ne _ _ _ e] at hy1
      exact ⟨y1, hy1.frame k (I.rep r') (hG2 r' e)⟩
  have hv : ∀ v0 r' q off n, KS w V σ v0 (.vw r' q off n) → bad r' q = false → KS w' V (modS σ r p bad x') v0 (.vw r' q off n) := by
    intro v0 r' q off n hk hb h y hy
    obtain ⟨y', hy'⟩ := hat r' q h y hb hy
    exact hk h y' hy'
  have ha : ∀ v0 r' q i, KS w V σ v0 (.ad r' q i) → bad r' q = false → KS w' V (modS σ r p bad x') v0 (.ad r' q i) := by
    intro v0 r' q i hk hb h y hy
    obtain ⟨y', hy'⟩ := hat r' q h y hb hy
    exact hk h y' hy'
  refine ⟨⟨fun t => ?_, fun t s hts => ?_, fun t => ?_, fun t b o g => ?_, hb'⟩, hat⟩
  · by_cases e : t = r
    · subst e
      simp only [modS, upd_same]
      exact Rep.mask _ hv ha _ s1
    · simp only [modS, upd_ne _ _ _ e]
      exact Rep.mask _ hv ha (σ t) (Rep.frame k hS hSS (σ t) (fun _ _ x => x) (hG2 t e) (Le.refl _) (I.rep t))
  · by_cases e : t = r
    · subst e
      rw [upd_same, upd_ne _ _ _ (Ne.symm hts)]
      exact Disj.or' ((I.dis t s hts).le h5 (Le.refl _)) (hd2 s (Ne.symm hts))
    · rw [upd_ne _ _ _ e]
      by_cases e2 : s = r
      · subst e2; rw [upd_same]; exact Disj.or ((I.dis t s hts).le (Le.refl _) h5) (hd2 t e).symm
      · rw [upd_ne _ _ _ e2]; exact I.dis t s hts
  · by_cases e : t = r
    · subst e; rw [upd_same]; exact Disj.or' hsr hd3
    · rw [upd_ne _ _ _ e]; exact hsh t e
  · by_cases e : t = r
    · subst e; rw [upd_same] at g; exact g.elim (fun g => Nat.lt_of_lt_of_le (I.bnd t b o (h5 b o g)) k.size) (hb b o)
    · rw [upd_ne _ _ _ e] at g; exact Nat.lt_of_lt_of_le (I.bnd t b o g) k.size

/-- Less may be known. -/
theorem At.dead {w : World} {v : Value} {q : List Nat} {h : Value} {x a : AV} (k : At w v .dead q h x) : ∃ x', At w v a q h x' := by
  cases k; exact ⟨_, .nil _ _⟩
theorem Inv.drop (I : Inv w Sh Fs V σ) {σ' : Nat → AV} (hσ : ∀ t, σ' t = .dead ∨ σ' t = σ t) : Inv w Sh Fs V σ' := by
  have hat : ∀ r q h x, At w (V r) (σ' r) q h x → ∃ x', At w (V r) (σ r) q h x' := by
    intro r q h x hx
    rcases hσ r with e | e
    · rw [e] at hx; exact hx.dead
    · rw [e] at hx; exact ⟨x, hx⟩
  have hK : ∀ v a, KS w V σ v a → KS w V σ' v a := by
    intro v a hk
    cases a <;> simp only [KS] at hk ⊢
    · intro h x hx; obtain ⟨x', hx'⟩ := hat _ _ h x hx; exact hk h x' hx'
    · intro h x hx; obtain ⟨x', hx'⟩ := hat _ _ h x hx; exact hk h x' hx'
  refine ⟨fun r => ?_, I.dis, I.shd, I.bnd, I.sbd⟩
  rcases hσ r with e | e
  · rw [e]; simp only [Rep]
  · rw [e]; exact Rep.wider (Le.refl _) hK (Le.refl _) (I.rep r)
/-- Memory has turned elsewhere. -/
theorem Inv.frame (I : Inv w Sh Fs V σ) {G : Foot} (k : Keeps G w w') (hG : ∀ t, Disj G (Fs t)) (hS : Disj Sh G) (hSS : Le Sh Sh') (hs' : ∀ t, Disj (Fs t) Sh') (hb' : ∀ b o, Sh' b o → b < w'.heap.size) : Inv w' Sh' Fs V σ := by
  have hK : ∀ v a, KS w V σ v a → KS w' V σ v a := by
    intro v a hk
    cases a <;> simp only [KS] at hk ⊢
    · intro h x hx; exact hk h x (hx.frame k (I.rep _) (hG _))
    · intro h x hx; exact hk h x (hx.frame k (I.rep _) (hG _))
  exact ⟨fun r => Rep.frame k hS hSS (σ r) hK (hG r) (Le.refl _) (I.rep r), I.dis, hs', fun r b o f => Nat.lt_of_lt_of_le (I.bnd r b o f) k.size, hb'⟩
end
end Go.Eng
