/- The engine, part D: operands, and the operations that turn nothing but the register that they fill. -/
import Derived.Test.YtdihagagelngiaaEngC
namespace Go.Eng
open Go
set_option linter.unusedVariables false
set_option linter.unusedSimpArgs false

/-- Registers below HB are the function's own; what lies above is what its arguments own. -/
def HB : Nat := 1000000

mutual
/-- A reference to what lies there (what is plain stays what it is). -/
def refT (r : Nat) : List Nat → AV → AV
  | p, .ow _ _ n _ => .vw r p 0 n
  | p, .op _ => .ad r p 0
  | p, .ag cs => .ag (refL r p 0 cs)
  | p, .tu cs => .tu (refL r p 0 cs)
  | _, .sc v => .sc v
  | _, .nl => .nl
  | _, .im n cs => .im n cs
  | _, .ip cs => .ip cs
  | _, .vw a b c d => .vw a b c d
  | _, .ad a b c => .ad a b c
  | _, .dead => .dead
def refL (r : Nat) : List Nat → Nat → List AV → List AV
  | _, _, [] => []
  | p, i, c :: cs => refT r (p ++ [i]) c :: refL r p (i + 1) cs
end
theorem refL_get (r : Nat) (p : List Nat) : ∀ (cs : List AV) (i k : Nat), (refL r p i cs)[k]? = (cs[k]?).map (refT r (p ++ [i + k]))
  | [], i, k => by simp [refL]
  | c :: cs, i, 0 => by simp [refL]
  | c :: cs, i, k + 1 => by simp [refL, refL_get r p cs (i + 1) k, Nat.add_assoc, Nat.add_comm 1 k]

def c1 : Value → AV
  | .slice none 0 0 => .nl
  | .agg _ => .dead
  | .tuple _ => .dead
  | v => .sc v
def cAV : Value → AV
  | .agg xs => bif xs.toList.all (·.oneCell') then .ag (xs.toList.map c1) else .dead
  | v => c1 v
def ov (σ : Nat → AV) : Operand → AV
  | .tmp t => bif Nat.blt t HB then refT t [] (σ t) else .dead
  | .const v => cAV v
  | .func f => .sc (.func (.func f) #[] #[])
  | .global _ => .dead
def VA (a : Act) (V : Nat → Value) : Prop := ∀ t, t < HB → V t = a.tmps.getD t undef

section
variable {P : Program} {w w' : World} {Sh Sh' : Foot} {Fs : Nat → Foot} {V : Nat → Value} {σ : Nat → AV} {K : Value → AV → Prop}

theorem Rep.c1 (v : Value) : Rep w Sh K (c1 v) noF v := by
  unfold Eng.c1
  split <;> simp [Rep, Value.oneCell']
theorem Reps.c1 : ∀ (xs : List Value), Reps w Sh K (xs.map c1) noF xs
  | [] => by simp [Reps]
  | x :: xs => by
    simp only [List.map_cons, Reps]
    exact ⟨x, xs, noF, noF, rfl, Rep.c1 x, Reps.c1 xs, Disj.no _, Le.refl _, Le.refl _⟩
theorem Rep.cAV (v : Value) : Rep w Sh K (cAV v) noF v := by
  unfold Eng.cAV
  split
  · rename_i xs
    cases h : xs.toList.all (·.oneCell')
    · simp [Rep]
    · simp only [cond_true, Rep]
      exact ⟨xs, rfl, fun u hu => by simpa using List.all_eq_true.1 h u hu, Reps.c1 _⟩
  · exact Rep.c1 v

mutual
theorem Rep.ref (r : Nat) : ∀ (a : AV) (p : List Nat) {K : Value → AV → Prop} {F : Foot} {v : Value}, (∀ v a, K v a → KS w V σ v a) → Rep w Sh K a F v → (∀ q h x, At w v a q h x → At w (V r) (σ r) (p ++ q) h x) → Rep w Sh (KS w V σ) (refT r p a) noF v
  | .sc u, p, _, _, _, _, h, _ => by simp only [refT]; simp only [Rep] at h ⊢; exact h
  | .nl, p, _, _, _, _, h, _ => by simp only [refT]; simp only [Rep] at h ⊢; exact h
  | .im n cs, p, _, _, _, _, h, _ => by simp only [refT]; simp only [Rep] at h ⊢; exact h
  | .ip cs, p, _, _, _, _, h, _ => by simp only [refT]; simp only [Rep] at h ⊢; exact h
  | .vw _ _ _ _, p, _, _, _, hK, h, _ => by simp only [refT]; simp only [Rep] at h ⊢; exact ⟨hK _ _ h.1, h.2⟩
  | .ad _ _ _, p, _, _, _, hK, h, _ => by simp only [refT]; simp only [Rep] at h ⊢; exact ⟨hK _ _ h.1, h.2⟩
  | .dead, p, _, _, _, _, h, _ => by simp only [refT, Rep]
  | .ow e sz n cs, p, _, _, v, _, h, hat => by
    simp only [refT, Rep] at h ⊢
    obtain ⟨xs, H, ho, -⟩ := h
    have hv : ∃ A cap, v = .slice A n cap ∧ n ≤ cap := by
      rcases ho.2 with ⟨rfl, rfl⟩ | ⟨g, cap, cur, rfl, -, -, hn, -⟩
      · exact ⟨_, _, rfl, Nat.le_refl _⟩
      · exact ⟨_, _, rfl, hn⟩
    obtain ⟨A, cap, rfl, hn⟩ := hv
    refine ⟨fun h x hx => ?_, rfl⟩
    have h0 := hat [] _ _ (.nil _ _)
    rw [List.append_nil] at h0
    obtain ⟨rfl, -⟩ := hx.det h0
    exact ⟨A, n, cap, rfl, fun _ => ⟨rfl, hn⟩, fun e => absurd rfl e⟩
  | .op cs, p, _, _, v, _, h, hat => by
    simp only [refT, Rep] at h ⊢
    obtain ⟨ad, xs, H, rfl, -⟩ := h
    refine ⟨fun h x hx => ?_, rfl⟩
    have h0 := hat [] _ _ (.nil _ _)
    rw [List.append_nil] at h0
    obtain ⟨rfl, -⟩ := hx.det h0
    exact ⟨ad, by simp [Addr.add], .inl rfl⟩
  | .ag cs, p, _, _, v, hK, h, hat => by
    simp only [refT, Rep] at h ⊢
    obtain ⟨xs, rfl, h1, hr⟩ := h
    exact ⟨xs, rfl, h1, Reps.ref r cs p 0 hK hr (fun j u c q h x hu hc hx => by rw [Nat.zero_add]; exact hat (j :: q) h x (.ag hc hu hx))⟩
  | .tu cs, p, _, _, v, hK, h, hat => by
    simp only [refT, Rep] at h ⊢
    obtain ⟨xs, rfl, hr⟩ := h
    exact ⟨xs, rfl, Reps.ref r cs p 0 hK hr (fun j u c q h x hu hc hx => by rw [Nat.zero_add]; exact hat (j :: q) h x (.tu hc hu hx))⟩
theorem Reps.ref (r : Nat) : ∀ (cs : List AV) (p : List Nat) (i : Nat) {K : Value → AV → Prop} {F : Foot} {xs : List Value}, (∀ v a, K v a → KS w V σ v a) → Reps w Sh K cs F xs → (∀ j u c q h x, xs[j]? = some u → cs[j]? = some c → At w u c q h x → At w (V r) (σ r) (p ++ (i + j) :: q) h x) → Reps w Sh (KS w V σ) (refL r p i cs) noF xs
  | [], p, i, _, _, xs, _, h, _ => by simpa only [refL, Reps] using h
  | c :: cs, p, i, _, _, xs, hK, h, hat => by
    simp only [refL, Reps] at h ⊢
    obtain ⟨x, xs', F1, F2, rfl, h1, h2, hd, l1, l2⟩ := h
    refine ⟨x, xs', noF, noF, rfl, Rep.ref r c (p ++ [i]) hK h1 (fun q h y hy => ?_), Reps.ref r cs p (i + 1) hK h2 (fun j u c' q h y hu hc hy => ?_), Disj.no _, Le.refl _, Le.refl _⟩
    · have := hat 0 x c q h y rfl rfl hy
      simpa using this
    · have := hat (j + 1) u c' q h y hu hc hy
      simpa [Nat.add_assoc, Nat.add_comm 1 j] using this
end
theorem Inv.ref (I : Inv w Sh Fs V σ) (t : Nat) : Rep w Sh (KS w V σ) (refT t [] (σ t)) noF (V t) :=
  Rep.ref t (σ t) [] (fun _ _ h => h) (I.rep t) (fun _ _ _ h => h)
theorem Inv.ov (I : Inv w Sh Fs V σ) {a : Act} (hA : VA a V) (x : Operand) : Rep w Sh (KS w V σ) (ov σ x) noF (a.eval x) := by
  cases x with
  | tmp t =>
    simp only [Eng.ov, Act.eval]
    cases h : Nat.blt t HB
    · simp only [cond_false, Rep]
    · simp only [cond_true]
      have h0 : t < HB := Nat.blt_eq ▸ h
      rw [← hA t h0]; exact I.ref t
  | const v => exact Rep.cAV v
  | global g => simp only [Eng.ov, Rep]
  | func f => simp [Eng.ov, Rep, Act.eval, Value.oneCell']

/-! What an address leads to. -/
def nodeCells (σ : Nat → AV) (r : Nat) (p : List Nat) : Option (List AV) :=
  match getN p (σ r) with
  | some (.ow _ _ _ cs) => some cs
  | some (.op cs) => some cs
  | _ => none
/-- The cell k on from an address. -/
def cell (σ : Nat → AV) (av : AV) (k : Nat) : Option AV :=
  match av with
  | .ad r p i => (nodeCells σ r p).bind fun cs => (cs[i + k]?).map (refT r (p ++ [i + k]))
  | .ip cs => cs[k]?
  | _ => none
theorem nodeCells_eq {r : Nat} {p : List Nat} {cs : List AV} (h : nodeCells σ r p = some cs) : ∃ x, getN p (σ r) = some x ∧ kids x = some cs ∧ ((∃ e sz n, x = .ow e sz n cs) ∨ x = .op cs) := by
  unfold nodeCells at h
  split at h
  · rename_i e sz n ds hx; cases h; exact ⟨_, hx, rfl, .inl ⟨e, sz, n, rfl⟩⟩
  · rename_i ds hx; cases h; exact ⟨_, hx, rfl, .inr rfl⟩
  · cases h

/-- The cells of what is owned lie one behind the other. -/
theorem Inv.node (I : Inv w Sh Fs V σ) {r : Nat} {p : List Nat} {cs : List AV} (h : nodeCells σ r p = some cs) :
    ∃ x u, getN p (σ r) = some x ∧ kids x = some cs ∧ At w (V r) (σ r) p u x ∧ ∀ ad v i, KS w V σ v (.ad r p i) → v = .pointer (some ad) →
      ∀ k c, cs[i + k]? = some c → ∃ y, w.cell? (ad.add k) = some y ∧ y.oneCell' = true ∧ Rep w Sh (KS w V σ) (refT r (p ++ [i + k]) c) noF y := by
  obtain ⟨x, hx, hk, hform⟩ := nodeCells_eq h
  obtain ⟨f, u, Fx, Fr, hf, hr, hat, -, -, -, -, hin⟩ := Rep.deep p (I.rep r) hx
  refine ⟨x, u, hx, hk, hat, ?_⟩
  intro ad v i hks hv k c hc
  obtain ⟨ad0, e1, e2⟩ := hks _ _ hat
  rw [hv] at e1
  simp only [Value.pointer.injEq, Option.some.injEq] at e1
  subst e1
  rw [add_add]
  have key : ∀ (xs : List Value) (H : Foot), Reps w Sh KF cs H xs → (∀ j y, xs[j]? = some y → w.cell? (ad0.add j) = some y) → (∀ y ∈ xs, y.oneCell' = true) → (∀ j y c q h z, xs[j]? = some y → cs[j]? = some c → At w y c q h z → At w u x (j :: q) h z) →
      ∃ y, w.cell? (ad0.add (i + k)) = some y ∧ y.oneCell' = true ∧ Rep w Sh (KS w V σ) (refT r (p ++ [i + k]) c) noF y := by
    intro xs H hrs hcell h1 hstep
    obtain ⟨y, Fj, g1, g2, g3⟩ := hrs.get hc
    refine ⟨y, hcell _ _ g1, h1 y (List.mem_of_getElem? g1), Rep.ref r c _ (fun _ _ h => h.elim) g2 (fun q h z hz => ?_)⟩
    have := hin _ _ _ (hstep (i + k) y c q h z g1 hc hz)
    simpa [List.append_assoc] using this
  rcases hform with ⟨e, sz, n, rfl⟩ | rfl
  · simp only [Rep] at hr
    obtain ⟨xs, H, ho, hz, hg, h1, hle, hrs⟩ := hr
    rcases ho.2 with ⟨rfl, rfl⟩ | ⟨g, cap, cur, rfl, -⟩
    · have : xs = [] := List.eq_nil_of_length_eq_zero (by simpa using ho.1)
      subst this
      have := hrs.length
      have hlt := (List.getElem?_eq_some_iff.1 hc).1
      simp only [List.length_nil] at this; omega
    · have hag : ad0 = ⟨g, 0, none⟩ := by
        rcases e2 with e2 | ⟨m, c', e2⟩
        · cases e2
        · cases e2; rfl
      subst hag
      have hcell := ho.cells (g := g) rfl
      exact key xs H hrs hcell h1 (fun j y c q h z hy hc hz => .ow hc (hcell _ _ hy) hz)
  · simp only [Rep] at hr
    obtain ⟨ad1, xs, H, rfl, hcc, h1, hle, hrs⟩ := hr
    have hag : ad0 = ad1 := by
      rcases e2 with e2 | ⟨m, c', e2⟩
      · cases e2; rfl
      · cases e2
    subst hag
    exact key xs H hrs (fun j y hy => (hcc j y hy).1) h1 (fun j y c q h z hy hc hz => .op hc (hcc j y hy).1 hz)
/-- What is read at an address. -/
theorem Inv.cell (I : Inv w Sh Fs V σ) {av : AV} {v : Value} (hr : Rep w Sh (KS w V σ) av noF v) {k : Nat} {c : AV} (hc : cell σ av k = some c) :
    ∃ ad y, v = .pointer (some ad) ∧ w.cell? (ad.add k) = some y ∧ y.oneCell' = true ∧ Rep w Sh (KS w V σ) c noF y := by
  cases av <;> simp only [Eng.cell, reduceCtorEq] at hc
  case ip cs =>
    simp only [Rep] at hr
    obtain ⟨ad, xs, rfl, hcell, h1, hrs⟩ := hr
    obtain ⟨y, Fj, g1, g2, g3⟩ := hrs.get hc
    exact ⟨ad, y, rfl, (hcell _ _ g1).1, h1 y (List.mem_of_getElem? g1), Rep.wider (Le.refl _) (fun _ _ h => h.elim) g3 g2⟩
  case ad r p i =>
    rw [Option.bind_eq_some_iff] at hc
    obtain ⟨cs, hn, hc⟩ := hc
    rw [Option.map_eq_some_iff] at hc
    obtain ⟨c0, hc, rfl⟩ := hc
    simp only [Rep] at hr
    obtain ⟨x, u, hx, hk, hat, hall⟩ := I.node hn
    obtain ⟨ad0, e1, e2⟩ := hr.1 _ _ hat
    obtain ⟨y, h1, h2, h3⟩ := hall _ v i hr.1 e1 k c0 hc
    exact ⟨_, y, e1, h1, h2, h3⟩
/-- An address, so many cells on. -/
def adv (σ : Nat → AV) (av : AV) (k : Nat) : Option AV :=
  match av with
  | .ad r p i => (nodeCells σ r p).map fun _ => .ad r p (i + k)
  | .ip cs => some (.ip (cs.drop k))
  | _ => none
theorem Reps.drop : ∀ (k : Nat) {cs : List AV} {F : Foot} {xs : List Value}, Reps w Sh K cs F xs → Reps w Sh K (cs.drop k) F (xs.drop k)
  | 0, cs, F, xs, h => h
  | k + 1, [], F, xs, h => by simp only [Reps] at h; subst h; simp [Reps]
  | k + 1, c :: cs, F, xs, h => by
    simp only [Reps] at h
    obtain ⟨x, xs', F1, F2, rfl, h1, h2, hd, l1, l2⟩ := h
    simp only [List.drop_succ_cons]
    exact Reps.drop k (Reps.wider (Le.refl _) (fun _ _ h => h) l2 h2)
theorem Reps.take : ∀ (k : Nat) {cs : List AV} {F : Foot} {xs : List Value}, Reps w Sh K cs F xs → Reps w Sh K (cs.take k) F (xs.take k)
  | 0, cs, F, xs, h => by simp [Reps]
  | k + 1, [], F, xs, h => by simp only [Reps] at h; subst h; simp [Reps]
  | k + 1, c :: cs, F, xs, h => by
    simp only [Reps] at h
    obtain ⟨x, xs', F1, F2, rfl, h1, h2, hd, l1, l2⟩ := h
    simp only [List.take_succ_cons, Reps]
    exact ⟨x, xs'.take k, F1, F2, rfl, h1, Reps.take k h2, hd, l1, l2⟩
theorem Inv.adv (I : Inv w Sh Fs V σ) {av : AV} {v : Value} (hr : Rep w Sh (KS w V σ) av noF v) {k : Nat} {c : AV} (hc : adv σ av k = some c) :
    ∃ ad, v = .pointer (some ad) ∧ Rep w Sh (KS w V σ) c noF (.pointer (some (ad.add k))) := by
  cases av <;> simp only [Eng.adv, reduceCtorEq, Option.some.injEq] at hc
  case ip cs =>
    subst hc
    simp only [Rep] at hr ⊢
    obtain ⟨ad, xs, rfl, hcell, h1, hrs⟩ := hr
    refine ⟨ad, rfl, _, xs.drop k, rfl, fun j u hj => ?_, fun u hu => h1 u (List.mem_of_mem_drop hu), hrs.drop k⟩
    rw [List.getElem?_drop] at hj
    rw [add_add, add_block, add_off, Nat.add_assoc]
    exact hcell _ _ hj
  case ad r p i =>
    rw [Option.map_eq_some_iff] at hc
    obtain ⟨cs, hn, rfl⟩ := hc
    simp only [Rep] at hr ⊢
    obtain ⟨x, u, hx, hk, hat, -⟩ := I.node hn
    obtain ⟨ad0, e1, e2⟩ := hr.1 _ _ hat
    refine ⟨_, e1, fun h y hy => ?_, rfl⟩
    obtain ⟨rfl, -⟩ := hy.det hat
    exact ⟨ad0, by rw [add_add], e2⟩
end
end Go.Eng
