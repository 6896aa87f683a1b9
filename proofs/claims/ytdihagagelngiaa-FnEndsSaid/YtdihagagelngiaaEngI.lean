/- The engine, part I: stores, appends, new variables and rows of what was owned elsewhere. -/
import Derived.Test.YtdihagagelngiaaEngH
namespace Go.Eng
open Go
set_option linter.unusedVariables false
set_option linter.unusedSimpArgs false

def T (Fs : Nat → Foot) : Foot := fun b o => ∃ r, Fs r b o
/-- What was owned and read before, and behind. -/
structure Ext (w : World) (Sh F : Foot) (w' : World) (Sh' F' : Foot) : Prop where
  keeps : Keeps F w w'
  sh : Le Sh Sh'
  new : ∀ b o, Sh' b o → Sh b o ∨ F b o ∨ w.heap.size ≤ b
  own : ∀ b o, F' b o → F b o ∨ w.heap.size ≤ b
theorem Ext.refl (w : World) (Sh F : Foot) : Ext w Sh F w Sh F := ⟨Keeps.refl _ _, Le.refl _, fun _ _ h => .inl h, fun _ _ h => .inl h⟩
theorem Ext.trans {w w1 w2 : World} {Sh Sh1 Sh2 F F1 F2 : Foot} (h : Ext w Sh F w1 Sh1 F1) (k : Ext w1 Sh1 F1 w2 Sh2 F2) : Ext w Sh F w2 Sh2 F2 := by
  have hs := h.keeps.size
  refine ⟨h.keeps.trans k.keeps (Le.refl _) (fun b o hb f => ?_), h.sh.trans k.sh, fun b o f => ?_, fun b o f => ?_⟩
  · rcases h.own b o f with f | f
    · exact f
    · omega
  · rcases k.new b o f with f | f | f
    · exact h.new b o f
    · rcases h.own b o f with f | f
      · exact .inr (.inl f)
      · exact .inr (.inr f)
    · exact .inr (.inr (by omega))
  · rcases k.own b o f with f | f
    · exact h.own b o f
    · exact .inr (by omega)

/-- Cells are written one behind the other. -/
inductive StoreL : (Nat → AV) → Nat → List Nat → Nat → List AV → (Nat → AV) → Prop
  | nil (σ r p i) : StoreL σ r p i [] σ
  | cons {σ σ' : Nat → AV} {r i : Nat} {p : List Nat} {nd c : AV} {cs vs : List AV} (hn : getN p (σ r) = some nd) (hk : (∃ e sz n, nd = .ow e sz n cs) ∨ nd = .op cs) (hi : i < cs.length)
      (k : StoreL (modS σ r p (isC r p i) (withKids nd (cs.set i c))) r p (i + 1) vs σ') : StoreL σ r p i (c :: vs) σ'

section
variable {P : Program} {w w' : World} {Sh Sh' : Foot} {V : Nat → Value} {K : Value → AV → Prop}
variable {a : Act} {o : Oper}

theorem isPrefixOf_self_snoc (p : List Nat) (i : Nat) : (p ++ [i]).isPrefixOf p = false := by
  cases h : (p ++ [i]).isPrefixOf p
  · rfl
  · have := (List.isPrefixOf_iff_prefix.1 h).length_le
    simp at this
    omega
theorem isC_other {r i j : Nat} {p t : List Nat} (h : isC r p i r (p ++ j :: t) = false) : j ≠ i := by
  rintro rfl
  have hp : (p ++ [j]).isPrefixOf (p ++ j :: t) = true := by
    rw [List.isPrefixOf_iff_prefix]
    exact ⟨t, by simp⟩
  simp [isC, hp] at h
theorem StoreL.sound {σ σ' : Nat → AV} {r i : Nat} {p : List Nat} {vs : List AV} (h : StoreL σ r p i vs σ') : ∀ {w : World} {Fs : Nat → Foot} {Ft : Foot} {ys : List Value} {ad : Addr} {k : Nat}, Inv w Sh Fs V σ → Reps w Sh KF vs Ft ys → (∀ u ∈ ys, u.oneCell' = true) → (∀ t, Disj Ft (Fs t)) → Disj Ft Sh → (∀ b o, Ft b o → b < w.heap.size) →
    (∀ h x, At w (V r) (σ r) p h x → ∃ ad0, (h = .pointer (some ad0) ∨ ∃ m cap, h = .slice (some ad0) m cap) ∧ ad.add k = ad0.add i) →
    ∃ w' Fs', (storeCells ad ys k).run P w = .ok () w' ∧ Inv w' Sh Fs' V σ' ∧ Keeps (Or (T Fs) Ft) w w' ∧ w'.heap.size = w.heap.size ∧ (∀ b o, T Fs' b o → T Fs b o ∨ Ft b o) := by
  induction h with
  | nil σ r p i =>
    intro w Fs Ft ys ad k I hr h1 hd hs hb hat
    simp only [Reps] at hr; subst hr
    exact ⟨w, Fs, rfl, I, Keeps.refl _ _, rfl, fun _ _ h => .inl h⟩
  | @cons σ σ' r i p nd c cs vs hn hk hi k ih =>
    intro w Fs Ft ys ad kk I hr h1 hd hs hb hat
    simp only [Reps] at hr
    obtain ⟨v, ys', F1, F2, rfl, r1, r2, rd, l1, l2⟩ := hr
    have hv : v.oneCell' = true := h1 v (by simp)
    obtain ⟨f, u, Fx, Fr, hf, g1, g2, g3, g4, g5, g6⟩ := I.mod hn
    obtain ⟨ad1, y, e1, e2, e3, e4, e5, e6⟩ := g1.setc hk hi hv r1 ((hd r).le l1 g4) ((I.shd r).le g4 (Le.refl _))
    obtain ⟨ad0, q1, q2⟩ := hat _ _ g2
    have hadd : ad0 = ad1 := by
      rcases q1 with q1 | ⟨_, _, q1⟩ <;> rcases e1 with e1 | ⟨_, _, e1⟩ <;> rw [q1] at e1 <;> cases e1 <;> rfl
    subst hadd
    rw [← q2] at e2 e3 e5 e6
    have hcf : Keeps (fun b o => b = ad0.block ∧ o = ad0.off + i) w (w.setCell (ad.add kk) v) := Keeps.setCell (by rw [q2, add_block, add_off]; exact ⟨rfl, rfl⟩)
    have hC : Le (fun b o => b = ad0.block ∧ o = ad0.off + i) Fx := fun b o ⟨x, y⟩ => by subst x; subst y; exact e4
    obtain ⟨I', hat'⟩ := g6 (w' := w.setCell (ad.add kk) v) (Sh' := Sh) (Fx' := Or Fx F1) (x' := withKids nd (cs.set i c)) (bad := isC r p i) hcf (g3.le hC (Le.refl _)) (fun t ht => (I.dis r t (Ne.symm ht)).le (hC.trans g4) (Le.refl _)) (((I.shd r).symm).le (Le.refl _) (hC.trans g4)) (Le.refl _) (fun t _ => I.shd t) ((I.shd r).le g5 (Le.refl _)) e5 (Disj.or' g3 ((hd r).le l1 g5)) (fun t ht => Disj.or' ((I.dis r t (Ne.symm ht)).le g4 (Le.refl _)) ((hd t).le l1 (Le.refl _))) (Disj.or' ((I.shd r).le g4 (Le.refl _)) (hs.le l1 (Le.refl _)))
      (fun b o hh => by
        have hsz : (w.setCell (ad.add kk) v).heap.size = w.heap.size := by simp [World.setCell]
        rw [hsz]
        exact hh.elim (fun hh => I.bnd r b o (g4 b o hh)) (fun hh => hb b o (l1 b o hh))) (fun b o hh => Nat.lt_of_lt_of_le (I.sbd b o hh) hcf.size) (fun j t h y hb hy => ⟨y, e6 j t h y (isC_other hb) hy⟩)
    have hsz : (w.setCell (ad.add kk) v).heap.size = w.heap.size := by simp [World.setCell]
    have hFs' : ∀ t, Disj F2 (upd Fs r (Or Fr (Or Fx F1)) t) := by
      intro t
      by_cases e : t = r
      · subst e; rw [upd_same]
        exact Disj.or ((hd t).le l2 g5) (Disj.or ((hd t).le l2 g4) rd.symm)
      · rw [upd_ne _ _ _ e]; exact (hd t).le l2 (Le.refl _)
    obtain ⟨w2, Fs2, s1, s2, s3, s4, s5⟩ := ih (w := w.setCell (ad.add kk) v) (Ft := F2) (ys := ys') (ad := ad) (k := kk + 1) I' (Reps.frame hcf (((I.shd r).symm).le (Le.refl _) (hC.trans g4)) (Le.refl _) vs (fun _ _ h => h) ((hd r).symm.le (hC.trans g4) l2) (Le.refl _) r2) (fun z hz => h1 z (List.mem_cons_of_mem _ hz)) hFs' (hs.le l2 (Le.refl _)) (fun b o hh => by rw [hsz]; exact hb b o (l2 b o hh))
      (fun h x hx => by
        obtain ⟨y', hy'⟩ := hat' r p h x (by simp [isC, isPrefixOf_self_snoc]) hx
        obtain ⟨ad2, p1, p2⟩ := hat h y' hy'
        refine ⟨ad2, p1, ?_⟩
        rw [← add_add, ← add_add, p2])
    refine ⟨w2, Fs2, ?_, s2, ?_, s4.trans hsz, fun b o hh => ?_⟩
    · simp only [storeCells, Sem.run_bind, run_store P w _ v .plain hv, e2, e3, Bool.false_eq_true, if_false, Result.andThen_ok, s1]
    · refine (hcf.mono (fun b o hh => .inl ⟨r, g4 _ _ (hC b o hh)⟩)).trans s3 (Le.refl _) (fun b o hb' hh => ?_)
      rcases hh with ⟨t, hh⟩ | hh
      · by_cases e : t = r
        · subst e; rw [upd_same] at hh
          rcases hh with hh | hh | hh
          · exact .inl ⟨t, g5 b o hh⟩
          · exact .inl ⟨t, g4 b o hh⟩
          · exact .inr (l1 b o hh)
        · rw [upd_ne _ _ _ e] at hh; exact .inl ⟨t, hh⟩
      · exact .inr (l2 b o hh)
    · rcases s5 b o hh with ⟨t, hh⟩ | hh
      · by_cases e : t = r
        · subst e; rw [upd_same] at hh
          rcases hh with hh | hh | hh
          · exact .inl ⟨t, g5 b o hh⟩
          · exact .inl ⟨t, g4 b o hh⟩
          · exact .inr (l1 b o hh)
        · rw [upd_ne _ _ _ e] at hh; exact .inl ⟨t, hh⟩
      · exact .inr (l2 b o hh)
end
end Go.Eng
