/- The engine, part H: what is owned is taken out of a register, and written into. -/
import Derived.Test.YtdihagagelngiaaEngG
namespace Go.Eng
open Go
set_option linter.unusedVariables false
set_option linter.unusedSimpArgs false

mutual
theorem mask_no : ∀ (a : AV), mask (fun _ _ => false) a = a
  | .vw .. => by simp [mask]
  | .ad .. => by simp [mask]
  | .ag cs => by simp [mask, maskL_no cs]
  | .tu cs => by simp [mask, maskL_no cs]
  | .sc _ => rfl
  | .nl => rfl
  | .im .. => rfl
  | .ow .. => rfl
  | .ip _ => rfl
  | .op _ => rfl
  | .dead => rfl
theorem maskL_no : ∀ (cs : List AV), maskL (fun _ _ => false) cs = cs
  | [] => rfl
  | c :: cs => by simp [maskL, mask_no c, maskL_no cs]
end
def setS (σ : Nat → AV) (r : Nat) (p : List Nat) (x : AV) : Nat → AV := upd σ r (setN p (σ r) x)
theorem modS_no (σ : Nat → AV) (r : Nat) (p : List Nat) (x : AV) : modS σ r p (fun _ _ => false) x = setS σ r p x := by
  funext t; simp [modS, setS, mask_no]

def isPl : AV → Bool
  | .sc _ | .nl | .im _ _ | .ip _ => true
  | _ => false
/-- What is owned leaves its place. -/
inductive TakeL : (Nat → AV) → List AV → List AV → (Nat → AV) → Prop
  | nil (σ) : TakeL σ [] [] σ
  | plain {σ σ' : Nat → AV} {a : AV} {as ts : List AV} (h : isPl a = true) (k : TakeL σ as ts σ') : TakeL σ (a :: as) (a :: ts) σ'
  | vw {σ σ' : Nat → AV} {r n e sz m : Nat} {p : List Nat} {cs as ts : List AV} (hn : getN p (σ r) = some (.ow e sz m cs)) (hm : n ≤ m) (k : TakeL (setS σ r p .dead) as ts σ') : TakeL σ (.vw r p 0 n :: as) (.ow e sz n (cs.take (n * sz)) :: ts) σ'
  | ad {σ σ' : Nat → AV} {r : Nat} {p : List Nat} {cs as ts : List AV} (hn : getN p (σ r) = some (.op cs)) (k : TakeL (setS σ r p .dead) as ts σ') : TakeL σ (.ad r p 0 :: as) (.op cs :: ts) σ'
  | ag {σ σ1 σ' : Nat → AV} {cs ds as ts : List AV} (h : TakeL σ cs ds σ1) (k : TakeL σ1 as ts σ') : TakeL σ (.ag cs :: as) (.ag ds :: ts) σ'
  | tu {σ σ1 σ' : Nat → AV} {cs ds as ts : List AV} (h : TakeL σ cs ds σ1) (k : TakeL σ1 as ts σ') : TakeL σ (.tu cs :: as) (.tu ds :: ts) σ'

section
variable {P : Program} {w w' : World} {Sh Sh' : Foot} {V : Nat → Value} {K : Value → AV → Prop}
variable {a : Act} {o : Oper}

theorem KS.mono {w' : World} {σ σ' : Nat → AV} (hat : ∀ r q h x, At w' (V r) (σ' r) q h x → ∃ x', At w (V r) (σ r) q h x') : ∀ v a, KS w V σ v a → KS w' V σ' v a := by
  intro v a hk
  cases a <;> simp only [KS] at hk ⊢
  · intro h x hx; obtain ⟨x', hx'⟩ := hat _ _ h x hx; exact hk h x' hx'
  · intro h x hx; obtain ⟨x', hx'⟩ := hat _ _ h x hx; exact hk h x' hx'
theorem Rep.trunc {e sz m n : Nat} {cs : List AV} {F : Foot} {A : Option Addr} {m' cap : Nat} (h : Rep w Sh K (.ow e sz m cs) F (.slice A m' cap)) (hn : n ≤ m) : Rep w Sh KF (.ow e sz n (cs.take (n * sz))) F (.slice A n cap) := by
  simp only [Rep] at h ⊢
  obtain ⟨xs, G, ho, hz, hg, h1, hle, hr⟩ := h
  have hmul : n * sz ≤ m * sz := Nat.mul_le_mul_right _ hn
  refine ⟨xs.take (n * sz), G, ⟨by rw [List.length_take, ho.1]; omega, ?_⟩, hz, fun g e => hg g (by cases A <;> exact e), fun u hu => h1 u (List.mem_of_mem_take hu), hle, hr.take _⟩
  rcases ho.2 with ⟨e, rfl⟩ | ⟨g, cap', cur, e, hb, hh, h3, h4, h5, h6⟩
  · cases e
    have : n = 0 := by omega
    subst this
    exact .inl ⟨rfl, rfl⟩
  · cases e
    refine .inr ⟨g, cap, cur, rfl, hb, hh, by omega, h4, h5, ?_⟩
    rw [← h6, List.take_take, Nat.min_eq_left hmul]
theorem Rep.kf_own {a : AV} (ha : (∃ e sz n cs, a = .ow e sz n cs) ∨ ∃ cs, a = .op cs) {F : Foot} {v : Value} (h : Rep w Sh K a F v) : Rep w Sh KF a F v := by
  rcases ha with ⟨e, sz, n, cs, rfl⟩ | ⟨cs, rfl⟩ <;> simpa only [Rep] using h

/-- One thing that is owned is taken out. -/
theorem Inv.out {Fs : Nat → Foot} {σ : Nat → AV} (I : Inv w Sh Fs V σ) {r : Nat} {p : List Nat} {x : AV} (hx : getN p (σ r) = some x) :
    ∃ f u Fx Fs', FK f ∧ Rep w Sh (f (KS w V σ)) x Fx u ∧ At w (V r) (σ r) p u x ∧ Inv w Sh Fs' V (setS σ r p .dead) ∧ (∀ t, Le (Fs' t) (Fs t)) ∧ (∀ t, Disj Fx (Fs' t)) ∧ Le Fx (Fs r) ∧ (∀ v a, KS w V σ v a → KS w V (setS σ r p .dead) v a) := by
  obtain ⟨f, u, Fx, Fr, hf, h1, h2, h3, h4, h5, h6⟩ := I.mod hx
  obtain ⟨I', hat⟩ := h6 (w' := w) (Sh' := Sh) (G := noF) (Fx' := noF) (x' := .dead) (bad := fun _ _ => false) (Keeps.refl _ _) (Disj.no' _) (fun _ _ => Disj.no' _) (Disj.no _) (Le.refl _) (fun t _ => I.shd t) ((I.shd r).le h5 (Le.refl _)) (by simp only [Rep]) (Disj.no' _) (fun _ _ => Disj.no' _) (Disj.no' _) (fun _ _ f => f.elim) I.sbd (fun j t h y _ k => by cases k)
  rw [modS_no] at I' hat
  refine ⟨f, u, Fx, _, hf, h1, h2, I', fun t => ?_, fun t => ?_, h4, KS.mono (fun r q h x k => hat r q h x rfl k)⟩
  · by_cases e : t = r
    · subst e; rw [upd_same]; exact Le.or h5 (Le.no _)
    · rw [upd_ne _ _ _ e]; exact Le.refl _
  · by_cases e : t = r
    · subst e; rw [upd_same]; exact Disj.or h3 (Disj.no _)
    · rw [upd_ne _ _ _ e]; exact (I.dis r t (Ne.symm e)).le h4 (Le.refl _)

theorem TakeL.sound {σ σ' : Nat → AV} {avs ts : List AV} (h : TakeL σ avs ts σ') : ∀ {Fs : Nat → Foot} {vs : List Value}, Inv w Sh Fs V σ → Reps w Sh (KS w V σ) avs noF vs →
    ∃ Fs' Ft, Inv w Sh Fs' V σ' ∧ Reps w Sh KF ts Ft vs ∧ (∀ r, Le (Fs' r) (Fs r)) ∧ (∀ r, Disj Ft (Fs' r)) ∧ (∀ b o, Ft b o → ∃ r, Fs r b o) ∧ (∀ v a, KS w V σ v a → KS w V σ' v a) := by
  induction h with
  | nil σ =>
    intro Fs vs I hr
    simp only [Reps] at hr; subst hr
    exact ⟨Fs, noF, I, by simp [Reps], fun _ => Le.refl _, fun _ => Disj.no' _, fun _ _ f => f.elim, fun _ _ h => h⟩
  | @plain σ σ' c as ts hp k ih =>
    intro Fs vs I hr
    simp only [Reps] at hr
    obtain ⟨x, xs', F1, F2, rfl, h1, h2, hd, l1, l2⟩ := hr
    obtain ⟨Fs', Ft, i1, i2, i3, i4, i5, i6⟩ := ih I (Reps.wider (Le.refl _) (fun _ _ h => h) l2 h2)
    refine ⟨Fs', Ft, i1, ?_, i3, i4, i5, i6⟩
    have hx : Rep w Sh KF c noF x := by
      cases c <;> simp only [isPl, Bool.false_eq_true] at hp <;> simpa only [Rep] using h1
    simp only [Reps]
    exact ⟨x, xs', noF, Ft, rfl, hx, i2, Disj.no' _, Le.no _, Le.refl _⟩
  | @vw σ σ' r n e sz m p cs as ts hn hm k ih =>
    intro Fs vs I hr
    simp only [Reps] at hr
    obtain ⟨x, xs', F1, F2, rfl, h1, h2, hd, l1, l2⟩ := hr
    obtain ⟨f, u, Fx, Fs1, hf, g1, g2, I1, g3, g4, g5, g6⟩ := I.out hn
    obtain ⟨Fs', Ft, i1, i2, i3, i4, i5, i6⟩ := ih I1 (Reps.wider (Le.refl _) g6 l2 h2)
    have hdx : Disj Fx Ft := fun b o hx ht => by obtain ⟨t, hh⟩ := i5 b o ht; exact g4 t b o hx hh
    simp only [Rep] at h1
    obtain ⟨A, m', cap, e1, e2, -⟩ := h1.1 _ _ g2
    obtain ⟨e3, e4⟩ := e2 rfl
    rw [e1] at g1
    have hx := g1.trunc (n := n) hm
    refine ⟨Fs', Or Fx Ft, i1, ?_, fun t => (i3 t).trans (g3 t), fun t => Disj.or' ((g4 t).le (Le.refl _) (i3 t)) (i4 t), fun b o hh => ?_, fun v a h => i6 v a (g6 v a h)⟩
    · simp only [Reps]
      rw [e3]
      exact ⟨_, xs', Fx, Ft, rfl, hx, i2, hdx, Le.left _ _, Le.right _ _⟩
    · rcases hh with hh | hh
      · exact ⟨r, g5 b o hh⟩
      · obtain ⟨t, ht⟩ := i5 b o hh; exact ⟨t, g3 t b o ht⟩
  | @ad σ σ' r p cs as ts hn k ih =>
    intro Fs vs I hr
    simp only [Reps] at hr
    obtain ⟨x, xs', F1, F2, rfl, h1, h2, hd, l1, l2⟩ := hr
    obtain ⟨f, u, Fx, Fs1, hf, g1, g2, I1, g3, g4, g5, g6⟩ := I.out hn
    obtain ⟨Fs', Ft, i1, i2, i3, i4, i5, i6⟩ := ih I1 (Reps.wider (Le.refl _) g6 l2 h2)
    have hdx : Disj Fx Ft := fun b o hx ht => by obtain ⟨t, hh⟩ := i5 b o ht; exact g4 t b o hx hh
    simp only [Rep] at h1
    obtain ⟨ad, e1, e2⟩ := h1.1 _ _ g2
    have hux : u = x := by
      have g1' := g1
      simp only [Rep] at g1'
      obtain ⟨ad', xs, G, rfl, -⟩ := g1'
      rcases e2 with e2 | ⟨_, _, e2⟩
      · cases e2; rw [e1]; simp [Addr.add]
      · cases e2
    subst hux
    refine ⟨Fs', Or Fx Ft, i1, ?_, fun t => (i3 t).trans (g3 t), fun t => Disj.or' ((g4 t).le (Le.refl _) (i3 t)) (i4 t), fun b o hh => ?_, fun v a h => i6 v a (g6 v a h)⟩
    · simp only [Reps]
      exact ⟨_, xs', Fx, Ft, rfl, g1.kf_own (.inr ⟨cs, rfl⟩), i2, hdx, Le.left _ _, Le.right _ _⟩
    · rcases hh with hh | hh
      · exact ⟨r, g5 b o hh⟩
      · obtain ⟨t, ht⟩ := i5 b o hh; exact ⟨t, g3 t b o ht⟩
  | @ag σ σ1 σ' cs ds as ts h k ih1 ih2 =>
    intro Fs vs I hr
    simp only [Reps] at hr
    obtain ⟨x, xs', F1, F2, rfl, h1, h2, hd, l1, l2⟩ := hr
    simp only [Rep] at h1
    obtain ⟨ys, rfl, h1a, h1b⟩ := h1
    obtain ⟨Fs1, Ft1, j1, j2, j3, j4, j5, j6⟩ := ih1 I (Reps.wider (Le.refl _) (fun _ _ h => h) l1 h1b)
    obtain ⟨Fs', Ft, i1, i2, i3, i4, i5, i6⟩ := ih2 j1 (Reps.wider (Le.refl _) j6 l2 h2)
    have hdx : Disj Ft1 Ft := fun b o hx ht => by obtain ⟨t, hh⟩ := i5 b o ht; exact j4 t b o hx hh
    refine ⟨Fs', Or Ft1 Ft, i1, ?_, fun t => (i3 t).trans (j3 t), fun t => Disj.or' ((j4 t).le (Le.refl _) (i3 t)) (i4 t), fun b o hh => ?_, fun v a h => i6 v a (j6 v a h)⟩
    · simp only [Reps]
      refine ⟨_, xs', Ft1, Ft, rfl, ?_, i2, hdx, Le.left _ _, Le.right _ _⟩
      simp only [Rep]
      exact ⟨ys, rfl, h1a, j2⟩
    · rcases hh with hh | hh
      · exact j5 b o hh
      · obtain ⟨t, ht⟩ := i5 b o hh; exact ⟨t, j3 t b o ht⟩
  | @tu σ σ1 σ' cs ds as ts h k ih1 ih2 =>
    intro Fs vs I hr
    simp only [Reps] at hr
    obtain ⟨x, xs', F1, F2, rfl, h1, h2, hd, l1, l2⟩ := hr
    simp only [Rep] at h1
    obtain ⟨ys, rfl, h1b⟩ := h1
    obtain ⟨Fs1, Ft1, j1, j2, j3, j4, j5, j6⟩ := ih1 I (Reps.wider (Le.refl _) (fun _ _ h => h) l1 h1b)
    obtain ⟨Fs', Ft, i1, i2, i3, i4, i5, i6⟩ := ih2 j1 (Reps.wider (Le.refl _) j6 l2 h2)
    have hdx : Disj Ft1 Ft := fun b o hx ht => by obtain ⟨t, hh⟩ := i5 b o ht; exact j4 t b o hx hh
    refine ⟨Fs', Or Ft1 Ft, i1, ?_, fun t => (i3 t).trans (j3 t), fun t => Disj.or' ((j4 t).le (Le.refl _) (i3 t)) (i4 t), fun b o hh => ?_, fun v a h => i6 v a (j6 v a h)⟩
    · simp only [Reps]
      refine ⟨_, xs', Ft1, Ft, rfl, ?_, i2, hdx, Le.left _ _, Le.right _ _⟩
      simp only [Rep]
      exact ⟨ys, rfl, j2⟩
    · rcases hh with hh | hh
      · exact j5 b o hh
      · obtain ⟨t, ht⟩ := i5 b o hh; exact ⟨t, j3 t b o ht⟩

/-! One cell is written. -/
def isC (r : Nat) (p : List Nat) (i : Nat) : Nat → List Nat → Bool := fun r' q => r' == r && (p ++ [i]).isPrefixOf q
/-- At a node. -/
theorem Rep.setc {nd : AV} {F Fc : Foot} {u v : Value} {cs : List AV} {i : Nat} {c : AV} (h : Rep w Sh K nd F u) (hk : (∃ e sz n, nd = .ow e sz n cs) ∨ nd = .op cs) (hi : i < cs.length) (hv : v.oneCell' = true) (hc : Rep w Sh KF c Fc v) (hd : Disj Fc F) (hsh : Disj F Sh) :
    ∃ ad0 y, (u = .pointer (some ad0) ∨ ∃ m cap, u = .slice (some ad0) m cap) ∧ w.cell? (ad0.add i) = some y ∧ w.frozen? (ad0.add i) = false ∧ F ad0.block (ad0.off + i) ∧
      Rep (w.setCell (ad0.add i) v) Sh KF (withKids nd (cs.set i c)) (Or F Fc) u ∧
      (∀ j t h y, j ≠ i → At (w.setCell (ad0.add i) v) u (withKids nd (cs.set i c)) (j :: t) h y → At w u nd (j :: t) h y) := by
  rcases hk with ⟨e, sz, n, rfl⟩ | rfl
  · simp only [Rep] at h
    obtain ⟨xs, H, ho, hz, hg, h1, hle, hr⟩ := h
    have hci : ∃ c0, cs[i]? = some c0 := ⟨_, List.getElem?_eq_getElem hi⟩
    obtain ⟨c0, hc0⟩ := hci
    obtain ⟨y, Fj, Fo, e1, e2, e3, e4, e5, e6, e7⟩ := hr.lens hc0
    obtain ⟨hlt, -⟩ := List.getElem?_eq_some_iff.1 e1
    rcases ho.2 with ⟨rfl, rfl⟩ | ⟨g, cap, cur, rfl, hb, hh, h3, h4, h5, h6⟩
    · have : xs = [] := List.eq_nil_of_length_eq_zero (by simpa using ho.1)
      subst this; simp at hlt
    · have hgb := hg g rfl
      have hcell : ∀ i u, xs[i]? = some u → w.cell? ((⟨g, 0, none⟩ : Addr).add i) = some u := ho.cells (g := g) rfl
      let G : Foot := fun b o => b = g ∧ o = i
      have hks : Keeps G w (w.setCell ((⟨g, 0, none⟩ : Addr).add i) v) := Keeps.setCell (by rw [add_block, add_off]; exact ⟨rfl, Nat.zero_add i⟩)
      have hGF : Le G F := fun b o ⟨e, _⟩ => by subst e; exact hgb.1 o
      have hGH : Disj G H := fun b o ⟨e, _⟩ f => by subst e; exact hgb.2 o f
      have hset := e6 (K' := KF) (c' := c) (u' := v) (Fj' := Fc) hks (hGH.le (Le.refl _) e5) ((hsh.symm).le (Le.refl _) hGF) (Le.refl _) (fun _ _ x => x) (Rep.frame hks ((hsh.symm).le (Le.refl _) hGF) (Le.refl _) c (fun _ _ x => x) (hd.symm.le hGF (Le.refl _)) (Le.refl _) hc) (hd.le (Le.refl _) (e5.trans hle))
      refine ⟨⟨g, 0, none⟩, y, .inr ⟨_, _, rfl⟩, hcell _ _ e1, ?_, hgb.1 _, ?_, ?_⟩
      · unfold World.frozen?
        rw [add_block]
        simp only [hh]
        simp
      · simp only [withKids, Rep]
        have hi2 : i < n * sz := by rw [← ho.1]; exact hlt
        refine ⟨xs.set i v, Or Fo Fc, ⟨by rw [List.length_set]; exact ho.1, .inr ⟨g, cap, cur.setIfInBounds i v, rfl, hb, ?_, h3, h4, by simpa using h5, ?_⟩⟩, hz, fun g' e' => ?_, fun z hz => ?_, Le.or ((e5.trans hle).trans (Le.left _ _)) (Le.right _ _), hset⟩
        · have hsp : ((⟨g, 0, none⟩ : Addr).add i).spot = none := by unfold Addr.add; split <;> rfl
          have hof : ((⟨g, 0, none⟩ : Addr).add i).off = i := by rw [add_off]; exact Nat.zero_add i
          simp [World.setCell, Array.getElem?_modify, add_block, hh, hsp, hof]
        · rw [Array.toList_setIfInBounds, List.take_set, h6]
        · cases e'
          exact ⟨fun o => .inl (hgb.1 o), fun o f => f.elim (fun f => hgb.2 o (e5 _ _ f)) (fun f => hd _ _ f (hgb.1 o))⟩
        · rcases List.mem_or_eq_of_mem_set hz with hz | rfl
          · exact h1 z hz
          · exact hv
      · intro j t h y' hj hat
        simp only [withKids] at hat
        cases hat with
        | ow hc2 hu2 hp2 =>
          rw [List.getElem?_set_ne (Ne.symm hj)] at hc2
          obtain ⟨u', Fi, f1, f2, f3⟩ := e7 hj hc2
          have hne : w.cell? ((⟨g, 0, none⟩ : Addr).add j) = some u' := hcell _ _ f1
          have := hks.cell hne (by rw [add_block, add_off]; rintro ⟨_, e⟩; exact hj (by simpa using e))
          rw [this] at hu2; cases hu2
          exact .ow hc2 hne (hp2.frame hks f2 (hGH.le (Le.refl _) (f3.trans e5)))
  · simp only [Rep] at h
    obtain ⟨ad, xs, H, rfl, hcc, h1, hle, hr⟩ := h
    obtain ⟨c0, hc0⟩ : ∃ c0, cs[i]? = some c0 := ⟨_, List.getElem?_eq_getElem hi⟩
    obtain ⟨y, Fj, Fo, e1, e2, e3, e4, e5, e6, e7⟩ := hr.lens hc0
    obtain ⟨c1, c2, c3, c4⟩ := hcc i y e1
    let G : Foot := fun b o => b = ad.block ∧ o = ad.off + i
    have hks : Keeps G w (w.setCell (ad.add i) v) := Keeps.setCell (by rw [add_block, add_off]; exact ⟨rfl, rfl⟩)
    have hGF : Le G F := fun b o ⟨e, e'⟩ => by subst e; subst e'; exact c3
    have hGH : Disj G H := fun b o ⟨e, e'⟩ f => by subst e; subst e'; exact c4 f
    have hset := e6 (K' := KF) (c' := c) (u' := v) (Fj' := Fc) hks (hGH.le (Le.refl _) e5) ((hsh.symm).le (Le.refl _) hGF) (Le.refl _) (fun _ _ x => x) (Rep.frame hks ((hsh.symm).le (Le.refl _) hGF) (Le.refl _) c (fun _ _ x => x) (hd.symm.le hGF (Le.refl _)) (Le.refl _) hc) (hd.le (Le.refl _) (e5.trans hle))
    have hcellj : ∀ j z, j ≠ i → xs[j]? = some z → (w.setCell (ad.add i) v).cell? (ad.add j) = some z := fun j z hj hz => hks.cell (hcc j z hz).1 (by rw [add_block, add_off]; rintro ⟨_, e⟩; exact hj (by omega))
    have hcelli : (w.setCell (ad.add i) v).cell? (ad.add i) = some v := by
      obtain ⟨arr, t, fr, hb, hs, ha⟩ := cell?_cells c1
      refine cell?_of (arr := arr.setIfInBounds (ad.add i).off v) (t := t) (fr := fr) ?_ hs ?_
      · simp [World.setCell, Array.getElem?_modify, hb, hs]
      · have := (Array.getElem?_eq_some_iff.1 ha).1
        simp [this]
    refine ⟨ad, y, .inl rfl, c1, c2, c3, ?_, ?_⟩
    · simp only [withKids, Rep]
      refine ⟨ad, xs.set i v, Or Fo Fc, rfl, fun j z hj => ?_, fun z hz => ?_, Le.or ((e5.trans hle).trans (Le.left _ _)) (Le.right _ _), hset⟩
      · by_cases e : j = i
        · subst e
          have hlt := (List.getElem?_eq_some_iff.1 e1).1
          rw [List.getElem?_set_self hlt] at hj; cases hj
          have hfz : (w.setCell (ad.add j) v).frozen? (ad.add j) = w.frozen? (ad.add j) := by
            obtain ⟨arr, t, fr, hb, hs, ha⟩ := cell?_cells c1
            simp [World.frozen?, World.setCell, Array.getElem?_modify, hb]
          exact ⟨hcelli, hfz.trans c2, .inl c3, fun f => f.elim (fun f => c4 (e5 _ _ f)) (fun f => hd _ _ f c3)⟩
        · rw [List.getElem?_set_ne (Ne.symm e)] at hj
          obtain ⟨d1, d2, d3, d4⟩ := hcc j z hj
          have hnf : ¬ G (ad.add j).block (ad.add j).off := by rw [add_block, add_off]; rintro ⟨_, e'⟩; exact e (by omega)
          exact ⟨hks.cell d1 hnf, (hks.frozen d1 hnf).trans d2, .inl d3, fun f => f.elim (fun f => d4 (e5 _ _ f)) (fun f => hd _ _ f d3)⟩
      · rcases List.mem_or_eq_of_mem_set hz with hz | rfl
        · exact h1 z hz
        · exact hv
    · intro j t h y' hj hat
      simp only [withKids] at hat
      cases hat with
      | op hc2 hu2 hp2 =>
        rw [List.getElem?_set_ne (Ne.symm hj)] at hc2
        obtain ⟨u', Fi, f1, f2, f3⟩ := e7 hj hc2
        rw [hcellj j u' hj f1] at hu2; cases hu2
        exact .op hc2 (hcc j _ f1).1 (hp2.frame hks f2 (hGH.le (Le.refl _) (f3.trans e5)))
end
end Go.Eng
