/- The engine, part B: paths into what is owned; a part is looked at, or replaced. -/
import Derived.Test.YtdihagagelngiaaEngA
namespace Go.Eng
open Go
set_option linter.unusedVariables false
set_option linter.unusedSimpArgs false

def kids : AV → Option (List AV)
  | .ow _ _ _ cs | .op cs | .ag cs | .tu cs => some cs
  | _ => none
def withKids : AV → List AV → AV
  | .ow e s n _, cs => .ow e s n cs
  | .op _, cs => .op cs
  | .ag _, cs => .ag cs
  | .tu _, cs => .tu cs
  | a, _ => a
def getN : List Nat → AV → Option AV
  | [], a => some a
  | j :: p, a => (kids a).bind fun cs => (cs[j]?).bind fun c => getN p c
def setN : List Nat → AV → AV → AV
  | [], a, x => x
  | j :: p, a, x => match kids a with
    | some cs => match cs[j]? with
      | some c => withKids a (cs.set j (setN p c x))
      | none => a
    | none => a
theorem kids_with {a : AV} {cs ds : List AV} (h : kids a = some cs) : kids (withKids a ds) = some ds := by
  cases a <;> simp_all [kids, withKids]

def Value.base : Value → Option Addr
  | .slice a _ _ => a
  | .pointer a => a
  | _ => none
/-- The value at a path. -/
inductive At (w : World) : Value → AV → List Nat → Value → AV → Prop
  | nil (v a) : At w v a [] v a
  | ow {ad : Addr} {m cap e sz n j : Nat} {cs : List AV} {c : AV} {u h : Value} {x : AV} {p : List Nat} (hc : cs[j]? = some c) (hu : w.cell? (ad.add j) = some u) (hp : At w u c p h x) : At w (.slice (some ad) m cap) (.ow e sz n cs) (j :: p) h x
  | op {ad : Addr} {j : Nat} {cs : List AV} {c : AV} {u h : Value} {x : AV} {p : List Nat} (hc : cs[j]? = some c) (hu : w.cell? (ad.add j) = some u) (hp : At w u c p h x) : At w (.pointer (some ad)) (.op cs) (j :: p) h x
  | ag {xs : Array Value} {j : Nat} {cs : List AV} {c : AV} {u h : Value} {x : AV} {p : List Nat} (hc : cs[j]? = some c) (hu : xs.toList[j]? = some u) (hp : At w u c p h x) : At w (.agg xs) (.ag cs) (j :: p) h x
  | tu {xs : Array Value} {j : Nat} {cs : List AV} {c : AV} {u h : Value} {x : AV} {p : List Nat} (hc : cs[j]? = some c) (hu : xs.toList[j]? = some u) (hp : At w u c p h x) : At w (.tuple xs) (.tu cs) (j :: p) h x
theorem At.det {w : World} {v : Value} {a : AV} {p : List Nat} {h : Value} {x : AV} (k : At w v a p h x) : ∀ {h' x'}, At w v a p h' x' → h = h' ∧ x = x' := by
  induction k with
  | nil => intro h' x' l; cases l; exact ⟨rfl, rfl⟩
  | ow hc hu hp ih => intro h' x' l; cases l with | ow hc' hu' hp' => rw [hc] at hc'; cases hc'; rw [hu] at hu'; cases hu'; exact ih hp'
  | op hc hu hp ih => intro h' x' l; cases l with | op hc' hu' hp' => rw [hc] at hc'; cases hc'; rw [hu] at hu'; cases hu'; exact ih hp'
  | ag hc hu hp ih => intro h' x' l; cases l with | ag hc' hu' hp' => rw [hc] at hc'; cases hc'; rw [hu] at hu'; cases hu'; exact ih hp'
  | tu hc hu hp ih => intro h' x' l; cases l with | tu hc' hu' hp' => rw [hc] at hc'; cases hc'; rw [hu] at hu'; cases hu'; exact ih hp'
theorem At.nil_eq {w : World} {v : Value} {a : AV} {p : List Nat} {h : Value} {x : AV} (k : At w v a p h x) : p = [] → h = v := by
  cases k <;> intro e <;> first | rfl | cases e
theorem At.getN {w : World} {v : Value} {a : AV} {p : List Nat} {h : Value} {x : AV} (k : At w v a p h x) : getN p a = some x := by
  induction k with
  | nil => rfl
  | ow hc hu hp ih => simp [Eng.getN, kids, hc, ih]
  | op hc hu hp ih => simp [Eng.getN, kids, hc, ih]
  | ag hc hu hp ih => simp [Eng.getN, kids, hc, ih]
  | tu hc hu hp ih => simp [Eng.getN, kids, hc, ih]

section
variable {w w' : World} {Sh Sh' : Foot} {K K' : Value → AV → Prop}

/-- One of several, and all the others. -/
theorem Reps.lens : ∀ {cs : List AV} {F : Foot} {xs : List Value} {j : Nat} {c : AV}, Reps w Sh K cs F xs → cs[j]? = some c →
    ∃ u Fj Fo, xs[j]? = some u ∧ Rep w Sh K c Fj u ∧ Disj Fj Fo ∧ Le Fj F ∧ Le Fo F ∧
      (∀ {w' : World} {Sh' : Foot} {K' : Value → AV → Prop} {G Fj' : Foot} {c' : AV} {u' : Value}, Keeps G w w' → Disj G Fo → Disj Sh G → Le Sh Sh' → (∀ v a, K v a → K' v a) → Rep w' Sh' K' c' Fj' u' → Disj Fj' Fo → Reps w' Sh' K' (cs.set j c') (Or Fo Fj') (xs.set j u')) ∧
      (∀ {i : Nat} {c' : AV}, i ≠ j → cs[i]? = some c' → ∃ u' Fi, xs[i]? = some u' ∧ Rep w Sh K c' Fi u' ∧ Le Fi Fo)
  | [], F, xs, j, c, h, hc => by simp at hc
  | a :: cs, F, xs, 0, c, h, hc => by
    simp only [Reps] at h
    obtain ⟨x, xs', F1, F2, rfl, h1, h2, hd, l1, l2⟩ := h
    simp only [List.getElem?_cons_zero, Option.some.injEq] at hc
    subst hc
    refine ⟨x, F1, F2, rfl, h1, hd, l1, l2, ?_, ?_⟩
    · intro w' Sh' K' G Fj' c' u' k hG hS hSS hK hr hd'
      simp only [List.set_cons_zero, Reps]
      exact ⟨u', xs', Fj', F2, rfl, hr, Reps.frame k hS hSS cs hK hG (Le.refl _) h2, hd', Le.right _ _, Le.left _ _⟩
    · intro i c' hi hc'
      obtain ⟨i, rfl⟩ : ∃ k, i = k + 1 := ⟨i - 1, by omega⟩
      simp only [List.getElem?_cons_succ] at hc' ⊢
      obtain ⟨u', Fi, Fo', e1, e2, e3, e4, e5, -⟩ := Reps.lens h2 hc'
      exact ⟨u', Fi, e1, e2, e4⟩
  | a :: cs, F, xs, j + 1, c, h, hc => by
    simp only [Reps] at h
    obtain ⟨x, xs', F1, F2, rfl, h1, h2, hd, l1, l2⟩ := h
    simp only [List.getElem?_cons_succ] at hc
    obtain ⟨u, Fj, Fo, e1, e2, e3, e4, e5, e6, e7⟩ := Reps.lens h2 hc
    refine ⟨u, Fj, Or F1 Fo, e1, e2, Disj.or (hd.le (Le.refl _) e4).symm e3, e4.trans l2, Le.or l1 (e5.trans l2), ?_, ?_⟩
    · intro w' Sh' K' G Fj' c' u' k hG hS hSS hK hr hd'
      simp only [List.set_cons_succ, Reps]
      refine ⟨x, xs'.set j u', F1, Or Fo Fj', rfl, Rep.frame k hS hSS a hK (hG.le (Le.refl _) (Le.left _ _)) (Le.refl _) h1, e6 k (hG.le (Le.refl _) (Le.right _ _)) hS hSS hK hr (hd'.le (Le.refl _) (Le.right _ _)), ?_, ?_, ?_⟩
      · exact Disj.or (hd.le (Le.refl _) e5) (hd'.symm.le (Le.left _ _) (Le.refl _))
      · exact (Le.left _ _).trans (Le.left _ _)
      · exact Le.or ((Le.right F1 Fo).trans (Le.left _ _)) (Le.right _ _)
    · intro i c' hi hc'
      cases i with
      | zero =>
        simp only [List.getElem?_cons_zero, Option.some.injEq] at hc'
        subst hc'
        exact ⟨x, F1, rfl, h1, Le.left _ _⟩
      | succ i =>
        simp only [List.getElem?_cons_succ] at hc' ⊢
        obtain ⟨u', Fi, f1, f2, f3⟩ := e7 (by omega) hc'
        exact ⟨u', Fi, f1, f2, f3.trans (Le.right _ _)⟩
theorem Reps.get {cs : List AV} {F : Foot} {xs : List Value} {j : Nat} {c : AV} (h : Reps w Sh K cs F xs) (hc : cs[j]? = some c) : ∃ u Fj, xs[j]? = some u ∧ Rep w Sh K c Fj u ∧ Le Fj F := by
  obtain ⟨u, Fj, Fo, e1, e2, e3, e4, -⟩ := h.lens hc
  exact ⟨u, Fj, e1, e2, e4⟩

/-- Nothing is a reference. -/
def KF : Value → AV → Prop := fun _ _ => False
def FK (f : (Value → AV → Prop) → Value → AV → Prop) : Prop := f = id ∨ f = fun _ => KF
theorem FK.mono {f : (Value → AV → Prop) → Value → AV → Prop} (h : FK f) {K K' : Value → AV → Prop} (hK : ∀ v a, K v a → K' v a) : ∀ v a, f K v a → f K' v a := by
  rcases h with rfl | rfl
  · exact hK
  · exact fun _ _ h => h
theorem FK.kf {f : (Value → AV → Prop) → Value → AV → Prop} (h : FK f) {K : Value → AV → Prop} : ∀ v a, KF v a → f K v a := fun _ _ h => h.elim
theorem FK.comp {f g : (Value → AV → Prop) → Value → AV → Prop} (h : FK f) (k : FK g) : FK (fun K => g (f K)) := by
  rcases h with rfl | rfl <;> rcases k with rfl | rfl
  · exact .inl rfl
  · exact .inr rfl
  · exact .inr rfl
  · exact .inr rfl

theorem At.frame {G : Foot} (k : Keeps G w w') {v : Value} {a : AV} {p : List Nat} {h : Value} {x : AV} (l : At w' v a p h x) : ∀ {K : Value → AV → Prop} {F : Foot}, Rep w Sh K a F v → Disj G F → At w v a p h x := by
  induction l with
  | nil => intro K F hr hd; exact .nil _ _
  | @ow ad m cap e sz n j cs c u h x p hc hu hp ih =>
    intro K F hr hd
    simp only [Rep] at hr
    obtain ⟨xs, H, ho, hz, hg, h1, hle, hrr⟩ := hr
    obtain ⟨u', Fj, e1, e2, e3⟩ := hrr.get hc
    rcases ho.2 with ⟨e, rfl⟩ | ⟨g, cap', cur, e, hb, hh, h3, h4, h5, h6⟩
    · cases e
    · cases e
      have hce : w.cell? ((⟨g, 0, none⟩ : Addr).add j) = some u' := ho.cells (g := g) rfl j u' e1
      have := k.cell hce (by rw [add_block, add_off]; exact fun f => hd _ _ f ((hg g rfl).1 _))
      rw [this] at hu; cases hu
      exact .ow hc hce (ih e2 (hd.le (Le.refl _) (e3.trans hle)))
  | @op ad j cs c u h x p hc hu hp ih =>
    intro K F hr hd
    simp only [Rep] at hr
    obtain ⟨ad', xs, H, e, hcc, h1, hle, hrr⟩ := hr
    cases e
    obtain ⟨u', Fj, e1, e2, e3⟩ := hrr.get hc
    obtain ⟨c1, c2, c3, c4⟩ := hcc j u' e1
    have := k.cell c1 (by rw [add_block, add_off]; exact fun f => hd _ _ f c3)
    rw [this] at hu; cases hu
    exact .op hc c1 (ih e2 (hd.le (Le.refl _) (e3.trans hle)))
  | @ag xs j cs c u h x p hc hu hp ih =>
    intro K F hr hd
    simp only [Rep] at hr
    obtain ⟨xs', e, h1, hrr⟩ := hr
    cases e
    obtain ⟨u', Fj, e1, e2, e3⟩ := hrr.get hc
    rw [hu] at e1; cases e1
    exact .ag hc hu (ih e2 (hd.le (Le.refl _) e3))
  | @tu xs j cs c u h x p hc hu hp ih =>
    intro K F hr hd
    simp only [Rep] at hr
    obtain ⟨xs', e, hrr⟩ := hr
    cases e
    obtain ⟨u', Fj, e1, e2, e3⟩ := hrr.get hc
    rw [hu] at e1; cases e1
    exact .tu hc hu (ih e2 (hd.le (Le.refl _) e3))

/-- What a kid's cell is, and that it may be turned. -/
theorem Rep.kid {a : AV} {F : Foot} {v : Value} {cs : List AV} {j : Nat} {c : AV} (h : Rep w Sh K a F v) (hk : kids a = some cs) (hc : cs[j]? = some c) :
    ∃ f u Fj Fo, FK f ∧ Rep w Sh (f K) c Fj u ∧ Disj Fj Fo ∧ Le Fj F ∧ Le Fo F ∧
      (∀ p h x, At w u c p h x → At w v a (j :: p) h x) ∧
      (∀ {w' : World} {Sh' : Foot} {K' : Value → AV → Prop} {G Fj' : Foot} {c' : AV}, Keeps G w w' → Disj G Fo → Disj Sh G → Le Sh Sh' → (∀ v a, K v a → K' v a) → Rep w' Sh' (f K') c' Fj' u → Disj Fj' Fo →
        Rep w' Sh' K' (withKids a (cs.set j c')) (Or Fo Fj') v ∧
        (∀ p h x, At w' v (withKids a (cs.set j c')) (j :: p) h x → At w' u c' p h x) ∧
        (∀ i p h x, i ≠ j → At w' v (withKids a (cs.set j c')) (i :: p) h x → At w v a (i :: p) h x)) := by
  cases a <;> simp only [kids, Option.some.injEq, reduceCtorEq] at hk
  case ow e sz n ds =>
    subst hk
    simp only [Rep] at h
    obtain ⟨xs, H, ho, hz, hg, h1, hle, hr⟩ := h
    obtain ⟨u, Fj, Fo, e1, e2, e3, e4, e5, e6, e7⟩ := hr.lens hc
    have hform : ∃ g cap, v = .slice (some ⟨g, 0, none⟩) n cap := by
      rcases ho.2 with ⟨rfl, rfl⟩ | ⟨g, cap, cur, rfl, _⟩
      · have : xs = [] := List.eq_nil_of_length_eq_zero (by simpa using ho.1)
        subst this; simp at e1
      · exact ⟨g, cap, rfl⟩
    obtain ⟨g, cap, rfl⟩ := hform
    have hcell : ∀ i u, xs[i]? = some u → w.cell? ((⟨g, 0, none⟩ : Addr).add i) = some u := ho.cells (g := g) rfl
    have hgb := hg g rfl
    have hdo : Disj Fj (Or (fun b _ => b = g) Fo) := Disj.or (fun b o f e => by subst e; exact hgb.2 o (e4 _ _ f)) e3
    refine ⟨_, u, Fj, Or (fun b _ => b = g) Fo, .inr rfl, e2, hdo, e4.trans hle, Le.or (fun b o e => by subst e; exact hgb.1 o) (e5.trans hle), fun p h x hp => .ow hc (hcell _ _ e1) hp, ?_⟩
    intro w' Sh' K' G Fj' c' k hG hS hSS hK hrep hd'
    have hGF : Disj G Fo := hG.le (Le.refl _) (Le.right _ _)
    have hGg : ∀ o, ¬ G g o := fun o f => hG g o f (.inl rfl)
    have hset := e6 (K' := KF) k hGF hS hSS (fun _ _ x => x) hrep (hd'.le (Le.refl _) (Le.right _ _))
    have hxs : xs.set j u = xs := by
      obtain ⟨hlt, he⟩ := List.getElem?_eq_some_iff.1 e1
      rw [← he, List.set_getElem_self]
    rw [hxs] at hset
    have hcell' : ∀ i u, xs[i]? = some u → w'.cell? ((⟨g, 0, none⟩ : Addr).add i) = some u := fun i u hi => k.cell (hcell i u hi) (by rw [add_block]; exact hGg _)
    refine ⟨?_, ?_, ?_⟩
    · simp only [withKids, Rep]
      refine ⟨xs, Or Fo Fj', ownsRow_frame ho k (fun g' e' o => by cases e'; exact hGg o), hz, fun g' e' => ?_, h1, Le.or ((Le.right _ _).trans (Le.left _ _)) (Le.right _ _), hset⟩
      cases e'
      exact ⟨fun o => .inl (.inl rfl), fun o f => f.elim (fun f => hgb.2 o (e5 _ _ f)) (fun f => hd' _ _ f (.inl rfl))⟩
    · intro p h x hp
      simp only [withKids] at hp
      cases hp with
      | ow hc2 hu2 hp2 =>
        rw [hcell' _ _ e1] at hu2; cases hu2
        rw [List.getElem?_set_self (List.getElem?_eq_some_iff.1 hc).1] at hc2; cases hc2
        exact hp2
    · intro i p h x hi hp
      simp only [withKids] at hp
      cases hp with
      | ow hc2 hu2 hp2 =>
        rw [List.getElem?_set_ne (Ne.symm hi)] at hc2
        obtain ⟨u', Fi, f1, f2, f3⟩ := e7 hi hc2
        rw [hcell' _ _ f1] at hu2; cases hu2
        exact .ow hc2 (hcell _ _ f1) (hp2.frame k f2 (hGF.le (Le.refl _) f3))
  case op ds =>
    subst hk
    simp only [Rep] at h
    obtain ⟨ad, xs, H, rfl, hcc, h1, hle, hr⟩ := h
    obtain ⟨u, Fj, Fo, e1, e2, e3, e4, e5, e6, e7⟩ := hr.lens hc
    let C : Foot := fun b o => b = ad.block ∧ ∃ i u, xs[i]? = some u ∧ o = ad.off + i
    have hCF : Le C F := fun b o ⟨e, i, u, hi, e'⟩ => by subst e; subst e'; exact (hcc i u hi).2.2.1
    have hCH : Disj C H := fun b o ⟨e, i, u, hi, e'⟩ f => by subst e; subst e'; exact (hcc i u hi).2.2.2 f
    have hdo : Disj Fj (Or C Fo) := Disj.or (hCH.symm.le e4 (Le.refl _)) e3
    refine ⟨_, u, Fj, Or C Fo, .inr rfl, e2, hdo, e4.trans hle, Le.or hCF (e5.trans hle), fun p h x hp => .op hc (hcc _ _ e1).1 hp, ?_⟩
    intro w' Sh' K' G Fj' c' k hG hS hSS hK hrep hd'
    have hGF : Disj G Fo := hG.le (Le.refl _) (Le.right _ _)
    have hset := e6 (K' := KF) k hGF hS hSS (fun _ _ x => x) hrep (hd'.le (Le.refl _) (Le.right _ _))
    have hxs : xs.set j u = xs := by
      obtain ⟨hlt, he⟩ := List.getElem?_eq_some_iff.1 e1
      rw [← he, List.set_getElem_self]
    rw [hxs] at hset
    have hnf : ∀ i u, xs[i]? = some u → ¬ G (ad.add i).block (ad.add i).off := fun i u hi => by rw [add_block, add_off]; exact fun f => hG _ _ f (.inl ⟨rfl, i, u, hi, rfl⟩)
    have hcell' : ∀ i u, xs[i]? = some u → w'.cell? (ad.add i) = some u := fun i u hi => k.cell (hcc i u hi).1 (hnf i u hi)
    refine ⟨?_, ?_, ?_⟩
    · simp only [withKids, Rep]
      refine ⟨ad, xs, Or Fo Fj', rfl, fun i u hi => ⟨hcell' i u hi, (k.frozen (hcc i u hi).1 (hnf i u hi)).trans (hcc i u hi).2.1, .inl (.inl ⟨rfl, i, u, hi, rfl⟩), fun f => f.elim (fun f => (hcc i u hi).2.2.2 (e5 _ _ f)) (fun f => hd' _ _ f (.inl ⟨rfl, i, u, hi, rfl⟩))⟩, h1, Le.or ((Le.right _ _).trans (Le.left _ _)) (Le.right _ _), hset⟩
    · intro p h x hp
      simp only [withKids] at hp
      cases hp with
      | op hc2 hu2 hp2 =>
        rw [hcell' _ _ e1] at hu2; cases hu2
        rw [List.getElem?_set_self (List.getElem?_eq_some_iff.1 hc).1] at hc2; cases hc2
        exact hp2
    · intro i p h x hi hp
      simp only [withKids] at hp
      cases hp with
      | op hc2 hu2 hp2 =>
        rw [List.getElem?_set_ne (Ne.symm hi)] at hc2
        obtain ⟨u', Fi, f1, f2, f3⟩ := e7 hi hc2
        rw [hcell' _ _ f1] at hu2; cases hu2
        exact .op hc2 (hcc _ _ f1).1 (hp2.frame k f2 (hGF.le (Le.refl _) f3))
  case ag ds =>
    subst hk
    simp only [Rep] at h
    obtain ⟨xs, rfl, h1, hr⟩ := h
    obtain ⟨u, Fj, Fo, e1, e2, e3, e4, e5, e6, e7⟩ := hr.lens hc
    refine ⟨id, u, Fj, Fo, .inl rfl, e2, e3, e4, e5, fun p h x hp => .ag hc e1 hp, ?_⟩
    intro w' Sh' K' G Fj' c' k hG hS hSS hK hrep hd'
    have hset := e6 k hG hS hSS hK hrep hd'
    have hxs : xs.toList.set j u = xs.toList := by
      obtain ⟨hlt, he⟩ := List.getElem?_eq_some_iff.1 e1
      rw [← he, List.set_getElem_self]
    rw [hxs] at hset
    refine ⟨?_, ?_, ?_⟩
    · simp only [withKids, Rep]
      exact ⟨xs, rfl, h1, hset⟩
    · intro p h x hp
      simp only [withKids] at hp
      cases hp with
      | ag hc2 hu2 hp2 =>
        rw [e1] at hu2; cases hu2
        rw [List.getElem?_set_self (List.getElem?_eq_some_iff.1 hc).1] at hc2; cases hc2
        exact hp2
    · intro i p h x hi hp
      simp only [withKids] at hp
      cases hp with
      | ag hc2 hu2 hp2 =>
        rw [List.getElem?_set_ne (Ne.symm hi)] at hc2
        obtain ⟨u', Fi, f1, f2, f3⟩ := e7 hi hc2
        rw [hu2] at f1; cases f1
        exact .ag hc2 hu2 (hp2.frame k f2 (hG.le (Le.refl _) f3))
  case tu ds =>
    subst hk
    simp only [Rep] at h
    obtain ⟨xs, rfl, hr⟩ := h
    obtain ⟨u, Fj, Fo, e1, e2, e3, e4, e5, e6, e7⟩ := hr.lens hc
    refine ⟨id, u, Fj, Fo, .inl rfl, e2, e3, e4, e5, fun p h x hp => .tu hc e1 hp, ?_⟩
    intro w' Sh' K' G Fj' c' k hG hS hSS hK hrep hd'
    have hset := e6 k hG hS hSS hK hrep hd'
    have hxs : xs.toList.set j u = xs.toList := by
      obtain ⟨hlt, he⟩ := List.getElem?_eq_some_iff.1 e1
      rw [← he, List.set_getElem_self]
    rw [hxs] at hset
    refine ⟨?_, ?_, ?_⟩
    · simp only [withKids, Rep]
      exact ⟨xs, rfl, hset⟩
    · intro p h x hp
      simp only [withKids] at hp
      cases hp with
      | tu hc2 hu2 hp2 =>
        rw [e1] at hu2; cases hu2
        rw [List.getElem?_set_self (List.getElem?_eq_some_iff.1 hc).1] at hc2; cases hc2
        exact hp2
    · intro i p h x hi hp
      simp only [withKids] at hp
      cases hp with
      | tu hc2 hu2 hp2 =>
        rw [List.getElem?_set_ne (Ne.symm hi)] at hc2
        obtain ⟨u', Fi, f1, f2, f3⟩ := e7 hi hc2
        rw [hu2] at f1; cases f1
        exact .tu hc2 hu2 (hp2.frame k f2 (hG.le (Le.refl _) f3))

/-- q goes on behind p. -/
def Under (p q : List Nat) : Prop := ∃ j t, q = p ++ j :: t

/-- A part that lies deep: it may be looked at, and turned, its own cell aside. -/
theorem Rep.deep : ∀ (p : List Nat) {K : Value → AV → Prop} {a : AV} {F : Foot} {v : Value} {x : AV}, Rep w Sh K a F v → getN p a = some x →
    ∃ f u Fx Fr, FK f ∧ Rep w Sh (f K) x Fx u ∧ At w v a p u x ∧ Disj Fx Fr ∧ Le Fx F ∧ Le Fr F ∧
      (∀ {w' : World} {Sh' : Foot} {K' : Value → AV → Prop} {G Fx' : Foot} {x' : AV}, Keeps G w w' → Disj G Fr → Disj Sh G → Le Sh Sh' → (∀ v a, K v a → K' v a) → Rep w' Sh' (f K') x' Fx' u → Disj Fx' Fr →
        Rep w' Sh' K' (setN p a x') (Or Fr Fx') v ∧
        (∀ q h y, ¬ Under p q → At w' v (setN p a x') q h y → ∃ y', At w v a q h y') ∧
        (∀ t h y, At w' v (setN p a x') (p ++ t) h y → At w' u x' t h y)) ∧
      (∀ t h y, At w u x t h y → At w v a (p ++ t) h y)
  | [], K, a, F, v, x, h, hx => by
    simp only [getN, Option.some.injEq] at hx
    subst hx
    refine ⟨id, v, F, noF, .inl rfl, h, .nil _ _, Disj.no _, Le.refl _, Le.no _, ?_, fun t h y k => k⟩
    intro w' Sh' K' G Fx' x' k hG hS hSS hK hrep hd
    refine ⟨Rep.wider (Le.refl _) (fun _ _ h => h) (Le.right _ _) hrep, fun q h y hq hat => ?_, fun t h y k => k⟩
    cases q with
    | nil => cases hat; exact ⟨_, .nil _ _⟩
    | cons j q => exact (hq ⟨j, q, rfl⟩).elim
  | j :: p, K, a, F, v, x, h, hx => by
    simp only [getN, Option.bind_eq_some_iff] at hx
    obtain ⟨cs, hk, c, hc, hx⟩ := hx
    obtain ⟨f, u, Fj, Fo, hf, hr, hd, l1, l2, hat, hset⟩ := h.kid hk hc
    obtain ⟨g, u2, Fx, Fr, hg, hr2, hat2, hd2, m1, m2, hset2, hin⟩ := Rep.deep p hr hx
    refine ⟨fun K => g (f K), u2, Fx, Or Fo Fr, hf.comp hg, hr2, hat _ _ _ hat2, Disj.or (hd.le m1 (Le.refl _)) hd2, m1.trans l1, Le.or l2 (m2.trans l1), ?_, fun t h y k => hat _ _ _ (hin t h y k)⟩
    intro w' Sh' K' G Fx' x' k hG hS hSS hK hrep hd'
    obtain ⟨r1, r2, r3⟩ := hset2 k (hG.le (Le.refl _) (Le.right _ _)) hS hSS (hf.mono hK) hrep (hd'.le (Le.refl _) (Le.right _ _))
    have hdo : Disj (Or Fr Fx') Fo := Disj.or' (hd.le m2 (Le.refl _)) (hd'.le (Le.refl _) (Le.left _ _))
    obtain ⟨s1, s2, s3⟩ := hset k (hG.le (Le.refl _) (Le.left _ _)) hS hSS hK r1 hdo
    have he : setN (j :: p) a x' = withKids a (cs.set j (setN p c x')) := by simp [setN, hk, hc]
    rw [he]
    refine ⟨Rep.wider (Le.refl _) (fun _ _ h => h) (Le.or ((Le.left _ _).trans (Le.left _ _)) (Le.or ((Le.right _ _).trans (Le.left _ _)) (Le.right _ _))) s1, fun q h y hq hqat => ?_, fun t h y k => r3 t h y (s2 _ _ _ k)⟩
    cases q with
    | nil => rw [hqat.nil_eq rfl]; exact ⟨_, .nil _ _⟩
    | cons i q =>
      by_cases e : i = j
      · subst e
        obtain ⟨y', hy⟩ := r2 q h y (fun ⟨i', t, e'⟩ => hq ⟨i', t, by rw [e']; rfl⟩) (s2 _ _ _ hqat)
        exact ⟨y', hat _ _ _ hy⟩
      · exact ⟨y, s3 i q h y e hqat⟩
end
end Go.Eng
