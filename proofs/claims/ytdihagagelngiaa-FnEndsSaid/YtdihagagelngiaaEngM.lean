/- The engine, part M: what is handed over at a call, and what comes back. -/
import Derived.Test.YtdihagagelngiaaEngL
namespace Go.Eng
open Go
set_option linter.unusedVariables false
set_option linter.unusedSimpArgs false
section
variable {P : Program} {w w' : World} {Sh Sh' : Foot} {Fs : Nat → Foot} {V : Nat → Value} {σ : Nat → AV} {a : Act} {o : Oper} {N : Nat}

mutual
theorem Rep.hard : ∀ (a : AV) {K K' : Value → AV → Prop} {Sh F : Foot} {v : Value}, Rep w Sh K a F v → Rep w (Or Sh F) K' (Eng.hard a) noF v
  | .sc u, _, _, _, _, _, h => by simp only [Eng.hard]; simp only [Rep] at h ⊢; exact h
  | .nl, _, _, _, _, _, h => by simp only [Eng.hard]; simp only [Rep] at h ⊢; exact h
  | .dead, _, _, _, _, _, h => by simp only [Eng.hard, Rep]
  | .vw .., _, _, _, _, _, h => by simp only [Eng.hard, Rep]
  | .ad .., _, _, _, _, _, h => by simp only [Eng.hard, Rep]
  | .im n cs, K, K', Sh, F, v, h => by
    simp only [Eng.hard]
    have h' : Rep w Sh KF (.im n cs) noF v := by simpa only [Rep] using h
    have := Rep.wider (Sh' := Or Sh F) (K' := KF) (Le.left _ _) (fun _ _ h => h) (Le.refl _) h'
    simpa only [Rep] using this
  | .ip cs, K, K', Sh, F, v, h => by
    simp only [Eng.hard]
    have h' : Rep w Sh KF (.ip cs) noF v := by simpa only [Rep] using h
    have := Rep.wider (Sh' := Or Sh F) (K' := KF) (Le.left _ _) (fun _ _ h => h) (Le.refl _) h'
    simpa only [Rep] using this
  | .ow e sz n cs, _, _, Sh, F, v, h => by
    simp only [Eng.hard, Rep] at h ⊢
    obtain ⟨xs, G, ho, hz, hg, h1, hle, hr⟩ := h
    have hrs : Reps w (Or Sh F) (fun _ _ => False) (hardL cs) noF xs := Reps.wider (Le.or (Le.left _ _) (hle.trans (Le.right _ _))) (fun _ _ h => h) (Le.refl _) (Reps.hard cs hr)
    rcases ho.2 with ⟨rfl, rfl⟩ | ⟨g, cap, cur, rfl, hb, hh, h3, h4, h5, h6⟩
    · have hx : xs = [] := List.eq_nil_of_length_eq_zero (by simpa using ho.1)
      subst hx
      exact ⟨none, 0, [], rfl, Nat.le_refl _, fun h => absurd rfl h, h1, hrs⟩
    · refine ⟨some ⟨g, 0, none⟩, cap, xs, rfl, h3, fun _ => ⟨_, rfl, fun j u hj => ⟨ho.cells (g := g) rfl j u hj, .inr ((hg g rfl).1 _)⟩⟩, h1, hrs⟩
  | .op cs, _, _, Sh, F, v, h => by
    simp only [Eng.hard, Rep] at h ⊢
    obtain ⟨ad, xs, G, rfl, hc, h1, hle, hr⟩ := h
    refine ⟨ad, xs, rfl, fun j u hj => ⟨(hc j u hj).1, .inr (hc j u hj).2.2.1⟩, h1, Reps.wider (Le.or (Le.left _ _) (hle.trans (Le.right _ _))) (fun _ _ h => h) (Le.refl _) (Reps.hard cs hr)⟩
  | .ag cs, _, _, Sh, F, v, h => by
    simp only [Eng.hard, Rep] at h ⊢
    obtain ⟨xs, rfl, h1, hr⟩ := h
    exact ⟨xs, rfl, h1, Reps.hard cs hr⟩
  | .tu cs, _, _, Sh, F, v, h => by
    simp only [Eng.hard, Rep] at h ⊢
    obtain ⟨xs, rfl, hr⟩ := h
    exact ⟨xs, rfl, Reps.hard cs hr⟩
theorem Reps.hard : ∀ (cs : List AV) {K K' : Value → AV → Prop} {Sh F : Foot} {xs : List Value}, Reps w Sh K cs F xs → Reps w (Or Sh F) K' (hardL cs) noF xs
  | [], _, _, _, _, _, h => by simpa only [hardL, Reps] using h
  | c :: cs, K, K', Sh, F, xs, h => by
    simp only [hardL, Reps] at h ⊢
    obtain ⟨x, xs', F1, F2, rfl, h1, h2, hd, l1, l2⟩ := h
    exact ⟨x, xs', noF, noF, rfl, Rep.wider (Le.or (Le.left _ _) (l1.trans (Le.right _ _))) (fun _ _ h => h) (Le.refl _) (Rep.hard c (K' := K') h1), Reps.wider (Le.or (Le.left _ _) (l2.trans (Le.right _ _))) (fun _ _ h => h) (Le.refl _) (Reps.hard cs (K' := K') h2), Disj.no _, Le.refl _, Le.refl _⟩
end

theorem Frz.sound (I : Inv w Sh Fs V σ) {x y : AV} {v : Value} (hr : Rep w Sh (KS w V σ) x noF v) (h : Frz σ x y) : Rep w (Or Sh (T Fs)) KF y noF v := by
  cases h with
  | plain a hp =>
    cases x <;> simp only [isPl, Bool.false_eq_true] at hp
    · simpa only [Rep] using hr
    · simpa only [Rep] using hr
    · exact Rep.wider (K := KF) (Le.left _ _) (fun _ _ h => h) (Le.refl _) (by simpa only [Rep] using hr)
    · exact Rep.wider (K := KF) (Le.left _ _) (fun _ _ h => h) (Le.refl _) (by simpa only [Rep] using hr)
  | vw r off n e sz m p cs hn hl =>
    obtain ⟨h, A, m', cap, A', cap', hat, e1, e2, e3, e4, e5, e6⟩ := I.view hr hn
    obtain ⟨f, u, Fx, Fr, hf, hx, hat2, -, hFx, -⟩ := Rep.deep p (I.rep r) hn
    obtain ⟨rfl, -⟩ := hat2.det hat
    simp only [Rep] at hx ⊢
    obtain ⟨xs, H, ho, hz, hg, h1, hle, hrs⟩ := hx
    have hlen := hrs.length
    have hkids : Reps w (Or Sh (T Fs)) (fun _ _ => False) (hardL ((cs.drop off).take (n * sz))) noF ((xs.drop off).take (n * sz)) :=
      Reps.wider (Le.or (Le.left _ _) (fun b o f => .inr ⟨r, hFx b o (hle b o f)⟩)) (fun _ _ h => h) (Le.refl _) (Reps.hard _ (K' := fun _ _ => False) ((hrs.drop off).take (n * sz)))
    refine ⟨A', cap', (xs.drop off).take (n * sz), e2, e3, fun hne => ?_, fun y hy => h1 y (List.mem_of_mem_drop (List.mem_of_mem_take hy)), hkids⟩
    have hxs : xs ≠ [] := by rintro rfl; simp at hne
    have hcs : cs ≠ [] := by rintro rfl; simp at hlen; exact hxs (List.eq_nil_of_length_eq_zero hlen.symm)
    have hn0 : n ≠ 0 := by rintro rfl; simp at hne
    obtain ⟨ad0, rfl⟩ := e6 hcs
    have hA : A' = some (ad0.add off) := by
      by_cases hz0 : off = 0
      · subst hz0; rw [(e4 rfl).1, add_zero']
      · rw [e5 hz0 hn0]; rfl
    refine ⟨_, hA, fun j y hj => ?_⟩
    have hj' : (xs.drop off)[j]? = some y := by
      rw [List.getElem?_take] at hj
      split at hj
      · exact hj
      · cases hj
    rw [List.getElem?_drop] at hj'
    rcases ho.2 with ⟨e', -⟩ | ⟨g, cap2, cur, e', -⟩
    · rw [e'] at e1; cases e1
    · rw [e'] at e1; cases e1
      rw [add_add, add_block, add_off]
      exact ⟨ho.cells (g := g) (by rw [e']; rfl) _ _ hj', .inr ⟨r, hFx _ _ ((hg g (by rw [e']; rfl)).1 _)⟩⟩
  | ad r i p cs hn =>
    obtain ⟨x, hx, hk, hform⟩ := nodeCells_eq hn
    obtain ⟨f, u, Fx, Fr, hf, hxr, hat, -, hFx, -⟩ := Rep.deep p (I.rep r) hx
    simp only [Rep] at hr ⊢
    obtain ⟨ad0, e1, e2⟩ := hr.1 _ _ hat
    have key : ∀ (xs : List Value) (H : Foot), Reps w Sh (fun _ _ => False) cs H xs → Le H Fx → (∀ j y, xs[j]? = some y → w.cell? (ad0.add j) = some y ∧ Fx ad0.block (ad0.off + j)) → (∀ y ∈ xs, y.oneCell' = true) →
        ∃ ad xs, v = .pointer (some ad) ∧ (∀ j u, xs[j]? = some u → w.cell? (ad.add j) = some u ∧ Or Sh (T Fs) ad.block (ad.off + j)) ∧ (∀ u ∈ xs, u.oneCell' = true) ∧ Reps w (Or Sh (T Fs)) (fun _ _ => False) (hardL (cs.drop i)) noF xs := by
      intro xs H hrs hle hcell h1
      refine ⟨ad0.add i, xs.drop i, e1, fun j y hj => ?_, fun y hy => h1 y (List.mem_of_mem_drop hy), Reps.wider (Le.or (Le.left _ _) (fun b o f => .inr ⟨r, hFx b o (hle b o f)⟩)) (fun _ _ h => h) (Le.refl _) (Reps.hard _ (K' := fun _ _ => False) (hrs.drop i))⟩
      rw [List.getElem?_drop] at hj
      obtain ⟨q1, q2⟩ := hcell _ _ hj
      rw [add_add, add_block, add_off, Nat.add_assoc]
      exact ⟨q1, .inr ⟨r, hFx _ _ q2⟩⟩
    rcases hform with ⟨e, sz, n, rfl⟩ | rfl
    · simp only [Rep] at hxr
      obtain ⟨xs, H, ho, hz, hg, h1, hle, hrs⟩ := hxr
      rcases ho.2 with ⟨rfl, rfl⟩ | ⟨g, cap, cur, rfl, -⟩
      · rcases e2 with e2 | ⟨_, _, e2⟩ <;> cases e2
      · have : ad0 = ⟨g, 0, none⟩ := by
          rcases e2 with e2 | ⟨_, _, e2⟩
          · cases e2
          · cases e2; rfl
        subst this
        exact key xs H hrs hle (fun j y hj => ⟨ho.cells (g := g) rfl j y hj, (hg g rfl).1 _⟩) h1
    · simp only [Rep] at hxr
      obtain ⟨ad1, xs, H, rfl, hcc, h1, hle, hrs⟩ := hxr
      have : ad0 = ad1 := by
        rcases e2 with e2 | ⟨_, _, e2⟩
        · cases e2; rfl
        · cases e2
      subst this
      exact key xs H hrs hle (fun j y hj => ⟨(hcc j y hj).1, (hcc j y hj).2.2.1⟩) h1
theorem FrzL.sound (I : Inv w Sh Fs V σ) {xs ys : List AV} (h : FrzL σ xs ys) : ∀ {vs : List Value}, Reps w Sh (KS w V σ) xs noF vs → Reps w (Or Sh (T Fs)) KF ys noF vs := by
  induction h with
  | nil => intro vs hr; simpa only [Reps] using hr
  | cons h k ih =>
    intro vs hr
    simp only [Reps] at hr ⊢
    obtain ⟨x, xs', F1, F2, rfl, h1, h2, hd, l1, l2⟩ := hr
    exact ⟨x, xs', noF, noF, rfl, h.sound I (Rep.wider (Le.refl _) (fun _ _ h => h) l1 h1), ih (Reps.wider (Le.refl _) (fun _ _ h => h) l2 h2), Disj.no _, Le.refl _, Le.refl _⟩
  | ag h k ih1 ih2 =>
    intro vs hr
    simp only [Reps] at hr ⊢
    obtain ⟨x, xs', F1, F2, rfl, h1, h2, hd, l1, l2⟩ := hr
    simp only [Rep] at h1
    obtain ⟨ys, rfl, h1a, h1b⟩ := h1
    refine ⟨_, xs', noF, noF, rfl, ?_, ih2 (Reps.wider (Le.refl _) (fun _ _ h => h) l2 h2), Disj.no _, Le.refl _, Le.refl _⟩
    simp only [Rep]
    exact ⟨ys, rfl, h1a, ih1 (Reps.wider (Le.refl _) (fun _ _ h => h) l1 h1b)⟩
theorem Frz.pl {x y : AV} (h : Frz σ x y) (hp : isPl x = true) : y = x := by
  cases h with
  | plain => rfl
  | vw => simp [isPl] at hp
  | ad => simp [isPl] at hp
theorem FrzL.pl {xs ys : List AV} (h : FrzL σ xs ys) : xs.all isPlA = true → ys = xs := by
  induction h with
  | nil => intro _; rfl
  | @cons x y xs ys h k ih =>
    intro hp
    simp only [List.all_cons, Bool.and_eq_true] at hp
    have hx : isPl x = true := by cases h <;> simp_all [isPlA, isPl]
    rw [h.pl hx, ih hp.2]
  | @ag cs ds as bs h k ih1 ih2 =>
    intro hp
    simp only [List.all_cons, Bool.and_eq_true, isPlA] at hp
    have : cs.all isPlA = true := by
      rw [List.all_eq_true] at hp ⊢
      intro x hx
      have := hp.1 x hx
      cases x <;> simp_all [isPlA, isPl]
    rw [ih1 this, ih2 hp.2]
theorem Rep.plKF {x : AV} {K : Value → AV → Prop} {F : Foot} {v : Value} (hp : isPl x = true) (h : Rep w Sh K x F v) : Rep w Sh KF x noF v := by
  cases x <;> simp only [isPl, Bool.false_eq_true] at hp <;> simpa only [Rep] using h
theorem Reps.plA : ∀ {xs : List AV} {K : Value → AV → Prop} {F : Foot} {vs : List Value}, xs.all isPlA = true → Reps w Sh K xs F vs → Reps w Sh KF xs noF vs
  | [], K, F, vs, hp, h => by simpa only [Reps] using h
  | x :: xs, K, F, vs, hp, h => by
    simp only [List.all_cons, Bool.and_eq_true] at hp
    simp only [Reps] at h ⊢
    obtain ⟨v, vs', F1, F2, rfl, h1, h2, hd, l1, l2⟩ := h
    refine ⟨v, vs', noF, noF, rfl, ?_, h2.plA hp.2, Disj.no _, Le.refl _, Le.refl _⟩
    have h0 := hp.1
    cases x with
    | ag cs =>
      simp only [isPlA] at h0
      simp only [Rep] at h1 ⊢
      obtain ⟨ys, rfl, g1, g2⟩ := h1
      exact ⟨ys, rfl, g1, g2.pl h0⟩
    | _ => exact h1.plKF h0

/-! Exactly what lies there. -/
def KE (w : World) (V : Nat → Value) (σ : Nat → AV) (S : List (Nat × List Nat)) (v : Value) : AV → Prop
  | .vw r p _ _ => (r, p) ∈ S ∧ ∀ h x, At w (V r) (σ r) p h x → h = v
  | .ad r p _ => (r, p) ∈ S ∧ ∀ h x, At w (V r) (σ r) p h x → h = v
  | _ => True
theorem KE.mono {σ' : Nat → AV} {S : List (Nat × List Nat)} (hat : ∀ r q h x, (r, q) ∈ S → At w' (V r) (σ' r) q h x → ∃ x', At w (V r) (σ r) q h x') : ∀ v a, KE w V σ S v a → KE w' V σ' S v a := by
  intro v a hk
  cases a <;> simp only [KE] at hk ⊢
  · exact ⟨hk.1, fun h x hx => by obtain ⟨x', hx'⟩ := hat _ _ h x hk.1 hx; exact hk.2 h x' hx'⟩
  · exact ⟨hk.1, fun h x hx => by obtain ⟨x', hx'⟩ := hat _ _ h x hk.1 hx; exact hk.2 h x' hx'⟩
theorem TakeF.sound {σ σ' : Nat → AV} {avs ts : List AV} (h : TakeF σ avs ts σ') : ∀ {Fs : Nat → Foot} {vs : List Value} {S : List (Nat × List Nat)}, (∀ x ∈ refsL avs, x ∈ S) → Inv w Sh Fs V σ → Reps w Sh (KS w V σ) avs noF vs →
    ∃ Fs' Ft, Inv w Sh Fs' V σ' ∧ Reps w Sh KF ts Ft vs ∧ (∀ r, Le (Fs' r) (Fs r)) ∧ (∀ r, Disj Ft (Fs' r)) ∧ (∀ b o, Ft b o → ∃ r, Fs r b o) ∧ (∀ r q h x, At w (V r) (σ' r) q h x → ∃ x', At w (V r) (σ r) q h x') ∧ Reps w Sh (KE w V σ' S) avs noF vs := by
  induction h with
  | nil σ =>
    intro Fs vs S hS I hr
    simp only [Reps] at hr; subst hr
    exact ⟨Fs, noF, I, by simp [Reps], fun _ => Le.refl _, fun _ => Disj.no' _, fun _ _ f => f.elim, fun _ _ _ x h => ⟨x, h⟩, by simp [Reps]⟩
  | @plain σ σ' c as ts hp k ih =>
    intro Fs vs S hS I hr
    simp only [Reps] at hr
    obtain ⟨x, xs', F1, F2, rfl, h1, h2, hd, l1, l2⟩ := hr
    obtain ⟨Fs', Ft, i1, i2, i3, i4, i5, i6, i7⟩ := ih (fun x hx => hS x (by simp [refsL, hx])) I (Reps.wider (Le.refl _) (fun _ _ h => h) l2 h2)
    refine ⟨Fs', Ft, i1, ?_, i3, i4, i5, i6, ?_⟩
    · simp only [Reps]
      exact ⟨x, xs', noF, Ft, rfl, h1.plKF hp, i2, Disj.no' _, Le.no _, Le.refl _⟩
    · simp only [Reps]
      exact ⟨x, xs', noF, noF, rfl, Rep.wider (Le.refl _) (fun _ _ h => h.elim) (Le.refl _) (h1.plKF hp), i7, Disj.no _, Le.refl _, Le.refl _⟩
  | @vw σ σ' r n e sz p cs as ts hn hl k ih =>
    intro Fs vs S hS I hr
    simp only [Reps] at hr
    obtain ⟨x, xs', F1, F2, rfl, h1, h2, hd, l1, l2⟩ := hr
    obtain ⟨f, u, Fx, Fs1, hf, g1, g2, I1, g3, g4, g5, g6⟩ := I.out hn
    have hat1 : ∀ r' q h x, At w (V r') (setS σ r p .dead r') q h x → ∃ x', At w (V r') (σ r') q h x' := by
      obtain ⟨f, u, Fx, Fr, hf, h1, h2, h3, h4, h5, h6⟩ := I.mod hn
      obtain ⟨I', hat⟩ := h6 (w' := w) (Sh' := Sh) (G := noF) (Fx' := noF) (x' := .dead) (bad := fun _ _ => false) (Keeps.refl _ _) (Disj.no' _) (fun _ _ => Disj.no' _) (Disj.no _) (Le.refl _) (fun t _ => I.shd t) ((I.shd r).le h5 (Le.refl _)) (by simp only [Rep]) (Disj.no' _) (fun _ _ => Disj.no' _) (Disj.no' _) (fun _ _ f => f.elim) I.sbd (fun j t h y _ k => by cases k)
      rw [modS_no] at hat
      exact fun r' q h x k => hat r' q h x rfl k
    obtain ⟨Fs', Ft, i1, i2, i3, i4, i5, i6, i7⟩ := ih (fun x hx => hS x (by simp [refsL, hx])) I1 (Reps.wider (Le.refl _) g6 l2 h2)
    have hdx : Disj Fx Ft := fun b o hx ht => by obtain ⟨t, hh⟩ := i5 b o ht; exact g4 t b o hx hh
    simp only [Rep] at h1
    obtain ⟨A, m', cap, e1, e2, -⟩ := h1.1 _ _ g2
    obtain ⟨e3, e4⟩ := e2 rfl
    have hm : m' = n := by
      rw [e1] at g1
      simp only [Rep] at g1
      obtain ⟨xs, G, ho, -⟩ := g1
      rcases ho.2 with ⟨e, rfl⟩ | ⟨g, cap', cur, e, -⟩ <;> cases e <;> rfl
    subst hm
    have hux : u = x := by rw [e1, e3]
    subst hux
    have hat : ∀ r q h x, At w (V r) (σ' r) q h x → ∃ x', At w (V r) (σ r) q h x' := fun r' q h x hh => by
      obtain ⟨x1, hx1⟩ := i6 r' q h x hh
      exact hat1 r' q h x1 hx1
    refine ⟨Fs', Or Fx Ft, i1, ?_, fun t => (i3 t).trans (g3 t), fun t => Disj.or' ((g4 t).le (Le.refl _) (i3 t)) (i4 t), fun b o hh => ?_, hat, ?_⟩
    · simp only [Reps]
      exact ⟨_, xs', Fx, Ft, rfl, g1.kf_own (.inl ⟨e, sz, _, cs, rfl⟩), i2, hdx, Le.left _ _, Le.right _ _⟩
    · rcases hh with hh | hh
      · exact ⟨r, g5 b o hh⟩
      · obtain ⟨t, ht⟩ := i5 b o hh; exact ⟨t, g3 t b o ht⟩
    · simp only [Reps]
      refine ⟨u, xs', noF, noF, rfl, ?_, i7, Disj.no _, Le.refl _, Le.refl _⟩
      simp only [Rep, KE]
      refine ⟨⟨hS _ (by simp [refsL, refs]), fun h y hy => ?_⟩, h1.2⟩
      obtain ⟨y', hy'⟩ := hat r p h y hy
      exact (hy'.det g2).1
  | @ad σ σ' r p cs as ts hn k ih =>
    intro Fs vs S hS I hr
    simp only [Reps] at hr
    obtain ⟨x, xs', F1, F2, rfl, h1, h2, hd, l1, l2⟩ := hr
    obtain ⟨f, u, Fx, Fs1, hf, g1, g2, I1, g3, g4, g5, g6⟩ := I.out hn
    have hat1 : ∀ r' q h x, At w (V r') (setS σ r p .dead r') q h x → ∃ x', At w (V r') (σ r') q h x' := by
      obtain ⟨f, u, Fx, Fr, hf, h1, h2, h3, h4, h5, h6⟩ := I.mod hn
      obtain ⟨I', hat⟩ := h6 (w' := w) (Sh' := Sh) (G := noF) (Fx' := noF) (x' := .dead) (bad := fun _ _ => false) (Keeps.refl _ _) (Disj.no' _) (fun _ _ => Disj.no' _) (Disj.no _) (Le.refl _) (fun t _ => I.shd t) ((I.shd r).le h5 (Le.refl _)) (by simp only [Rep]) (Disj.no' _) (fun _ _ => Disj.no' _) (Disj.no' _) (fun _ _ f => f.elim) I.sbd (fun j t h y _ k => by cases k)
      rw [modS_no] at hat
      exact fun r' q h x k => hat r' q h x rfl k
    obtain ⟨Fs', Ft, i1, i2, i3, i4, i5, i6, i7⟩ := ih (fun x hx => hS x (by simp [refsL, hx])) I1 (Reps.wider (Le.refl _) g6 l2 h2)
    have hdx : Disj Fx Ft := fun b o hx ht => by obtain ⟨t, hh⟩ := i5 b o ht; exact g4 t b o hx hh
    simp only [Rep] at h1
    obtain ⟨ad, e1, e2⟩ := h1.1 _ _ g2
    have hux : u = x := by
      have g1' := g1
      simp only [Rep] at g1'
      obtain ⟨ad', xs, G, rfl, -⟩ := g1'
      rcases e2 with e2 | ⟨_, _, e2⟩
      · cases e2; rw [e1]; simp [Addr.add]
      · cases e2
    subst hux
    have hat : ∀ r q h x, At w (V r) (σ' r) q h x → ∃ x', At w (V r) (σ r) q h x' := fun r' q h x hh => by
      obtain ⟨x1, hx1⟩ := i6 r' q h x hh
      exact hat1 r' q h x1 hx1
    refine ⟨Fs', Or Fx Ft, i1, ?_, fun t => (i3 t).trans (g3 t), fun t => Disj.or' ((g4 t).le (Le.refl _) (i3 t)) (i4 t), fun b o hh => ?_, hat, ?_⟩
    · simp only [Reps]
      exact ⟨_, xs', Fx, Ft, rfl, g1.kf_own (.inr ⟨cs, rfl⟩), i2, hdx, Le.left _ _, Le.right _ _⟩
    · rcases hh with hh | hh
      · exact ⟨r, g5 b o hh⟩
      · obtain ⟨t, ht⟩ := i5 b o hh; exact ⟨t, g3 t b o ht⟩
    · simp only [Reps]
      refine ⟨u, xs', noF, noF, rfl, ?_, i7, Disj.no _, Le.refl _, Le.refl _⟩
      simp only [Rep, KE]
      refine ⟨⟨hS _ (by simp [refsL, refs]), fun h y hy => ?_⟩, h1.2⟩
      obtain ⟨y', hy'⟩ := hat r p h y hy
      exact (hy'.det g2).1
  | @ag σ σ1 σ' cs ds as ts h k ih1 ih2 =>
    intro Fs vs S hS I hr
    simp only [Reps] at hr
    obtain ⟨x, xs', F1, F2, rfl, h1, h2, hd, l1, l2⟩ := hr
    simp only [Rep] at h1
    obtain ⟨ys, rfl, h1a, h1b⟩ := h1
    obtain ⟨Fs1, Ft1, j1, j2, j3, j4, j5, j6, j7⟩ := ih1 (fun x hx => hS x (by simp [refsL, refs, hx])) I (Reps.wider (Le.refl _) (fun _ _ h => h) l1 h1b)
    obtain ⟨Fs', Ft, i1, i2, i3, i4, i5, i6, i7⟩ := ih2 (fun x hx => hS x (by simp [refsL, hx])) j1 (Reps.wider (Le.refl _) (KS.mono j6) l2 h2)
    have hdx : Disj Ft1 Ft := fun b o hx ht => by obtain ⟨t, hh⟩ := i5 b o ht; exact j4 t b o hx hh
    refine ⟨Fs', Or Ft1 Ft, i1, ?_, fun t => (i3 t).trans (j3 t), fun t => Disj.or' ((j4 t).le (Le.refl _) (i3 t)) (i4 t), fun b o hh => ?_, fun r q h x hh => ?_, ?_⟩
    · simp only [Reps]
      refine ⟨_, xs', Ft1, Ft, rfl, ?_, i2, hdx, Le.left _ _, Le.right _ _⟩
      simp only [Rep]
      exact ⟨ys, rfl, h1a, j2⟩
    · rcases hh with hh | hh
      · exact j5 b o hh
      · obtain ⟨t, ht⟩ := i5 b o hh; exact ⟨t, j3 t b o ht⟩
    · obtain ⟨x1, hx1⟩ := i6 r q h x hh
      exact j6 r q h x1 hx1
    · simp only [Reps]
      refine ⟨_, xs', noF, noF, rfl, ?_, i7, Disj.no _, Le.refl _, Le.refl _⟩
      simp only [Rep]
      exact ⟨ys, rfl, h1a, Reps.wider (Le.refl _) (KE.mono fun r q h x _ hh => i6 r q h x hh) (Le.refl _) j7⟩

/-- Exactly what is handed over as one's own. -/
def ER (w : World) (Sh : Foot) (K : Value → AV → Prop) : List Bool → List AV → List Value → Prop
  | true :: ms, a :: as, v :: vs => Rep w Sh K a noF v ∧ ER w Sh K ms as vs
  | _ :: ms, _ :: as, _ :: vs => ER w Sh K ms as vs
  | _, _, _ => True
theorem ER.mono {K K' : Value → AV → Prop} (hK : ∀ v a, K v a → K' v a) : ∀ {ms : List Bool} {as : List AV} {vs : List Value}, ER w Sh K ms as vs → ER w Sh K' ms as vs
  | [], as, vs, h => by simp only [ER]
  | true :: ms, [], vs, h => by simp only [ER]
  | true :: ms, a :: as, [], h => by simp only [ER]
  | true :: ms, a :: as, v :: vs, h => by
    simp only [ER] at h ⊢
    exact ⟨Rep.wider (Le.refl _) hK (Le.refl _) h.1, ER.mono hK h.2⟩
  | false :: ms, [], vs, h => by simp only [ER]
  | false :: ms, a :: as, [], h => by simp only [ER]
  | false :: ms, a :: as, v :: vs, h => by
    simp only [ER] at h ⊢
    exact ER.mono hK h
theorem ER.frame {G : Foot} (k : Keeps G w w') {K K' : Value → AV → Prop} (hS : Disj Sh G) (hSS : Le Sh Sh') (hK : ∀ v a, K v a → K' v a) : ∀ {ms : List Bool} {as : List AV} {vs : List Value}, ER w Sh K ms as vs → ER w' Sh' K' ms as vs
  | [], as, vs, h => by simp only [ER]
  | true :: ms, [], vs, h => by simp only [ER]
  | true :: ms, a :: as, [], h => by simp only [ER]
  | true :: ms, a :: as, v :: vs, h => by
    simp only [ER] at h ⊢
    exact ⟨Rep.frame k hS hSS a hK (Disj.no _) (Le.refl _) h.1, ER.frame k hS hSS hK h.2⟩
  | false :: ms, [], vs, h => by simp only [ER]
  | false :: ms, a :: as, [], h => by simp only [ER]
  | false :: ms, a :: as, v :: vs, h => by
    simp only [ER] at h ⊢
    exact ER.frame k hS hSS hK h
theorem PassL.sound {σe σ σ1 : Nat → AV} {ms : List Bool} {as ts : List AV} (h : PassL σe σ ms as ts σ1) : ∀ {Fs : Nat → Foot} {vs : List Value} {S : List (Nat × List Nat)}, (∀ x ∈ owRefs ms as, x ∈ S) → Inv w Sh Fs V σ → Reps w Sh (KS w V σ) as noF vs →
    ∃ Fs' Ft, Inv w Sh Fs' V σ1 ∧ (∀ r, Le (Fs' r) (Fs r)) ∧ (∀ r, Disj Ft (Fs' r)) ∧ (∀ b o, Ft b o → ∃ r, Fs r b o) ∧ (∀ r q h x, At w (V r) (σ1 r) q h x → ∃ x', At w (V r) (σ r) q h x') ∧ ER w Sh (KE w V σ1 S) ms as vs ∧
      (∀ {Fe : Nat → Foot}, Inv w Sh Fe V σe → (∀ r q h x, At w (V r) (σe r) q h x → ∃ x', At w (V r) (σ1 r) q h x') → Reps w (Or Sh (T Fe)) KF ts Ft vs) ∧
      (roPl ms as = true → Reps w Sh KF ts Ft vs) := by
  induction h with
  | nil σ =>
    intro Fs vs S hS I hr
    simp only [Reps] at hr; subst hr
    exact ⟨Fs, noF, I, fun _ => Le.refl _, fun _ => Disj.no' _, fun _ _ f => f.elim, fun _ _ _ x h => ⟨x, h⟩, by simp only [ER], fun _ _ => by simp [Reps], fun _ => by simp [Reps]⟩
  | @own σ σ1 σ2 a t ms as ts h k ih =>
    intro Fs vs S hS I hr
    simp only [Reps] at hr
    obtain ⟨x, xs', F1, F2, rfl, h1, h2, hd, l1, l2⟩ := hr
    obtain ⟨Fs1, Ft1, j1, j2, j3, j4, j5, j6, j7⟩ := h.sound (S := S) (fun y hy => hS y (by simp [refsL] at hy; simp [owRefs, hy])) I (Reps.one (Rep.wider (Le.refl _) (fun _ _ h => h) l1 h1))
    obtain ⟨v1, ev, j2⟩ := j2.of_one
    cases ev
    obtain ⟨v1, ev, j7⟩ := j7.of_one
    cases ev
    obtain ⟨Fs', Ft, i1, i3, i4, i5, i6, i7, i8, i9⟩ := ih (S := S) (fun y hy => hS y (by simp [owRefs, hy])) j1 (Reps.wider (Le.refl _) (KS.mono j6) l2 h2)
    have hdx : Disj Ft1 Ft := fun b o hx ht => by obtain ⟨t, hh⟩ := i5 b o ht; exact j4 t b o hx hh
    refine ⟨Fs', Or Ft1 Ft, i1, fun t => (i3 t).trans (j3 t), fun t => Disj.or' ((j4 t).le (Le.refl _) (i3 t)) (i4 t), fun b o hh => ?_, fun r q h x hh => ?_, ?_, fun Ie hm => ?_, fun hp => ?_⟩
    · rcases hh with hh | hh
      · exact j5 b o hh
      · obtain ⟨t, ht⟩ := i5 b o hh; exact ⟨t, j3 t b o ht⟩
    · obtain ⟨x1, hx1⟩ := i6 r q h x hh
      exact j6 r q h x1 hx1
    · simp only [ER]
      exact ⟨Rep.wider (Le.refl _) (KE.mono fun r q h x _ hh => i6 r q h x hh) (Le.refl _) j7, i7⟩
    · simp only [Reps]
      exact ⟨_, xs', Ft1, Ft, rfl, Rep.wider (Le.left _ _) (fun _ _ h => h) (Le.refl _) j2, i8 Ie hm, hdx, Le.left _ _, Le.right _ _⟩
    · simp only [Reps]
      exact ⟨_, xs', Ft1, Ft, rfl, j2, i9 (by simpa only [roPl] using hp), hdx, Le.left _ _, Le.right _ _⟩
  | @ro σ σ2 a b ms as ts h k ih =>
    intro Fs vs S hS I hr
    simp only [Reps] at hr
    obtain ⟨x, xs', F1, F2, rfl, h1, h2, hd, l1, l2⟩ := hr
    have h1' := Rep.wider (Le.refl _) (fun _ _ h => h) l1 h1
    obtain ⟨Fs', Ft, i1, i3, i4, i5, i6, i7, i8, i9⟩ := ih (S := S) (fun y hy => hS y (by simpa [owRefs] using hy)) I (Reps.wider (Le.refl _) (fun _ _ h => h) l2 h2)
    refine ⟨Fs', Ft, i1, i3, i4, i5, i6, by simpa only [ER] using i7, fun Ie hm => ?_, fun hp => ?_⟩
    · have := FrzL.sound Ie h (Reps.one (Rep.wider (Le.refl _) (KS.mono fun r q h x hx => by obtain ⟨x1, hx1⟩ := hm r q h x hx; exact i6 r q h x1 hx1) (Le.refl _) h1'))
      obtain ⟨v1, ev, this⟩ := this.of_one
      cases ev
      simp only [Reps]
      exact ⟨_, xs', noF, Ft, rfl, this, i8 Ie hm, Disj.no' _, Le.no _, Le.refl _⟩
    · simp only [roPl, Bool.and_eq_true] at hp
      have hb : [b] = [a] := h.pl (by simp [hp.1])
      cases hb
      have := Reps.plA (xs := [a]) (by simp [hp.1]) (Reps.one h1')
      obtain ⟨v1, ev, this⟩ := this.of_one
      cases ev
      simp only [Reps]
      exact ⟨_, xs', noF, Ft, rfl, this, i9 hp.2, Disj.no' _, Le.no _, Le.refl _⟩
end
end Go.Eng
