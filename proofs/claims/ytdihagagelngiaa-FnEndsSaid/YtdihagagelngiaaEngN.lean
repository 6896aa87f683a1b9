/- The engine, part N: calls bear it out. -/
import Derived.Test.YtdihagagelngiaaEngM
namespace Go.Eng
open Go
set_option linter.unusedVariables false
set_option linter.unusedSimpArgs false
section
variable {P : Program} {w w' : World} {Sh Sh' : Foot} {Fs : Nat → Foot} {V : Nat → Value} {σ : Nat → AV} {a : Act} {o : Oper} {N : Nat}

mutual
theorem Rep.noIm : ∀ (a : AV) {K : Value → AV → Prop} {F : Foot} {v : Value}, Eng.noIm a = true → Rep w Sh K a F v → Rep w Sh' K a F v
  | .sc u, _, _, _, _, h => by simpa only [Rep] using h
  | .nl, _, _, _, _, h => by simpa only [Rep] using h
  | .dead, _, _, _, _, h => by simp only [Rep]
  | .vw .., _, _, _, _, h => by simpa only [Rep] using h
  | .ad .., _, _, _, _, h => by simpa only [Rep] using h
  | .ip cs, _, _, _, hn, h => by simp [Eng.noIm] at hn
  | .im n cs, _, _, _, hn, h => by
    simp only [Eng.noIm, List.isEmpty_iff] at hn
    subst hn
    simp only [Rep, Reps] at h ⊢
    obtain ⟨A, cap, xs, rfl, hn, hc, h1, rfl⟩ := h
    exact ⟨A, cap, [], rfl, hn, fun h => absurd rfl h, h1, rfl⟩
  | .ow e sz n cs, _, _, _, hn, h => by
    simp only [Eng.noIm] at hn
    simp only [Rep] at h ⊢
    obtain ⟨xs, G, ho, hz, hg, h1, hle, hr⟩ := h
    exact ⟨xs, G, ho, hz, hg, h1, hle, Reps.noIm cs hn hr⟩
  | .op cs, _, _, _, hn, h => by
    simp only [Eng.noIm] at hn
    simp only [Rep] at h ⊢
    obtain ⟨ad, xs, G, e, hc, h1, hle, hr⟩ := h
    exact ⟨ad, xs, G, e, hc, h1, hle, Reps.noIm cs hn hr⟩
  | .ag cs, _, _, _, hn, h => by
    simp only [Eng.noIm] at hn
    simp only [Rep] at h ⊢
    obtain ⟨xs, e, h1, hr⟩ := h
    exact ⟨xs, e, h1, Reps.noIm cs hn hr⟩
  | .tu cs, _, _, _, hn, h => by
    simp only [Eng.noIm] at hn
    simp only [Rep] at h ⊢
    obtain ⟨xs, e, hr⟩ := h
    exact ⟨xs, e, Reps.noIm cs hn hr⟩
theorem Reps.noIm : ∀ (cs : List AV) {K : Value → AV → Prop} {F : Foot} {xs : List Value}, noImL cs = true → Reps w Sh K cs F xs → Reps w Sh' K cs F xs
  | [], _, _, _, _, h => by simpa only [Reps] using h
  | c :: cs, _, _, _, hn, h => by
    simp only [noImL, Bool.and_eq_true] at hn
    simp only [Reps] at h ⊢
    obtain ⟨x, xs', F1, F2, e, h1, h2, hd, l1, l2⟩ := h
    exact ⟨x, xs', F1, F2, e, Rep.noIm c hn.1 h1, Reps.noIm cs hn.2 h2, hd, l1, l2⟩
end

theorem ER.all {K : Value → AV → Prop} : ∀ {cs : List AV} {F : Foot} {xs : List Value}, Reps w Sh K cs noF xs → ER w Sh K (List.replicate cs.length true) cs xs
  | [], F, xs, h => by simp only [List.length_nil, List.replicate_zero, ER]
  | c :: cs, F, xs, h => by
    simp only [Reps] at h
    obtain ⟨x, xs', F1, F2, rfl, h1, h2, hd, l1, l2⟩ := h
    simp only [List.length_cons, List.replicate_succ, ER]
    exact ⟨Rep.wider (Le.refl _) (fun _ _ h => h) l1 h1, ER.all (F := noF) (Reps.wider (Le.refl _) (fun _ _ h => h) l2 h2)⟩
theorem isU_under (r : Nat) (p : List Nat) (j : Nat) (t : List Nat) : isU r p r (p ++ j :: t) = true := by
  simp [isU]

theorem BackL.sound {σ σ' : Nat → AV} {ms : List Bool} {as ts : List AV} {S : List (Nat × List Nat)} (hS : stab S = true) (h : BackL σ ms as ts σ') : ∀ {Fs : Nat → Foot} {Ft : Foot} {vs : List Value}, Inv w Sh Fs V σ → Reps w Sh KF ts Ft vs → ER w Sh (KE w V σ S) ms as vs → (∀ t, Disj Ft (Fs t)) → Disj Ft Sh → Bd w Ft →
    ∃ Fs', Inv w Sh Fs' V σ' ∧ (∀ b o, T Fs' b o → T Fs b o ∨ Ft b o) ∧ (∀ r q h x, (r, q) ∈ S → At w (V r) (σ' r) q h x → ∃ x', At w (V r) (σ r) q h x') := by
  have hst : ∀ x ∈ S, ∀ y ∈ S, isU x.1 x.2 y.1 y.2 = false := by
    intro x hx y hy
    have := List.all_eq_true.1 (List.all_eq_true.1 hS x hx) y hy
    simpa using this
  induction h with
  | nil σ => intro Fs Ft vs I hr he hd hs hb; exact ⟨Fs, I, fun _ _ h => .inl h, fun _ _ _ x _ h => ⟨x, h⟩⟩
  | @skip σ σ' a t m ms as ts k ih =>
    intro Fs Ft vs I hr he hd hs hb
    simp only [Reps] at hr
    obtain ⟨x, xs', F1, F2, rfl, h1, h2, hdd, l1, l2⟩ := hr
    have he' : ER w Sh (KE w V σ S) ms as xs' := by cases m <;> simp only [ER] at he <;> first | exact he | exact he.2
    obtain ⟨Fs', i1, i2, i3⟩ := ih I h2 he' (fun t => (hd t).le l2 (Le.refl _)) (hs.le l2 (Le.refl _)) (fun b o f => hb b o (l2 b o f))
    exact ⟨Fs', i1, fun b o f => (i2 b o f).imp id (l2 b o), i3⟩
  | @vw σ σ' r n p t ms as ts hn k ih =>
    intro Fs Ft vs I hr he hd hs hb
    simp only [Reps] at hr
    obtain ⟨x, xs', F1, F2, rfl, h1, h2, hdd, l1, l2⟩ := hr
    simp only [ER, Rep, KE] at he
    obtain ⟨⟨⟨hmem, hex⟩, -⟩, he⟩ := he
    obtain ⟨f, u, Fx, Fr, hf, g1, g2, g3, g4, g5, g6⟩ := I.mod hn
    have hux : u = x := hex _ _ g2
    subst hux
    obtain ⟨I', hat⟩ := g6 (w' := w) (Sh' := Sh) (G := noF) (Fx' := F1) (x' := t) (bad := isU r p) (Keeps.refl _ _) (Disj.no' _) (fun _ _ => Disj.no' _) (Disj.no _) (Le.refl _) (fun t _ => I.shd t) ((I.shd r).le g5 (Le.refl _)) h1 ((hd r).le l1 g5) (fun t _ => (hd t).le l1 (Le.refl _)) (hs.le l1 (Le.refl _)) (fun b o f => hb b o (l1 b o f)) I.sbd (fun j t h y hbad _ => by rw [isU_under] at hbad; cases hbad)
    have hat' : ∀ r' q h x, (r', q) ∈ S → At w (V r') (modS σ r p (isU r p) t r') q h x → ∃ x', At w (V r') (σ r') q h x' := fun r' q h x hm hx => hat r' q h x (hst _ hmem _ hm) hx
    obtain ⟨Fs', i1, i2, i3⟩ := ih I' h2 (he.mono (KE.mono hat')) (fun t' => by
      by_cases e : t' = r
      · subst e; rw [upd_same]; exact Disj.or ((hd t').le l2 g5) hdd.symm
      · rw [upd_ne _ _ _ e]; exact (hd t').le l2 (Le.refl _)) (hs.le l2 (Le.refl _)) (fun b o f => hb b o (l2 b o f))
    refine ⟨Fs', i1, fun b o f => ?_, fun r' q h x hm hx => ?_⟩
    · rcases i2 b o f with ⟨t', f⟩ | f
      · by_cases e : t' = r
        · subst e; rw [upd_same] at f
          exact f.elim (fun f => .inl ⟨t', g5 b o f⟩) (fun f => .inr (l1 b o f))
        · rw [upd_ne _ _ _ e] at f; exact .inl ⟨t', f⟩
      · exact .inr (l2 b o f)
    · obtain ⟨x1, hx1⟩ := i3 r' q h x hm hx
      exact hat' r' q h x1 hm hx1
  | @ad σ σ' r p t ms as ts hn k ih =>
    intro Fs Ft vs I hr he hd hs hb
    simp only [Reps] at hr
    obtain ⟨x, xs', F1, F2, rfl, h1, h2, hdd, l1, l2⟩ := hr
    simp only [ER, Rep, KE] at he
    obtain ⟨⟨⟨hmem, hex⟩, -⟩, he⟩ := he
    obtain ⟨f, u, Fx, Fr, hf, g1, g2, g3, g4, g5, g6⟩ := I.mod hn
    have hux : u = x := hex _ _ g2
    subst hux
    obtain ⟨I', hat⟩ := g6 (w' := w) (Sh' := Sh) (G := noF) (Fx' := F1) (x' := t) (bad := isU r p) (Keeps.refl _ _) (Disj.no' _) (fun _ _ => Disj.no' _) (Disj.no _) (Le.refl _) (fun t _ => I.shd t) ((I.shd r).le g5 (Le.refl _)) h1 ((hd r).le l1 g5) (fun t _ => (hd t).le l1 (Le.refl _)) (hs.le l1 (Le.refl _)) (fun b o f => hb b o (l1 b o f)) I.sbd (fun j t h y hbad _ => by rw [isU_under] at hbad; cases hbad)
    have hat' : ∀ r' q h x, (r', q) ∈ S → At w (V r') (modS σ r p (isU r p) t r') q h x → ∃ x', At w (V r') (σ r') q h x' := fun r' q h x hm hx => hat r' q h x (hst _ hmem _ hm) hx
    obtain ⟨Fs', i1, i2, i3⟩ := ih I' h2 (he.mono (KE.mono hat')) (fun t' => by
      by_cases e : t' = r
      · subst e; rw [upd_same]; exact Disj.or ((hd t').le l2 g5) hdd.symm
      · rw [upd_ne _ _ _ e]; exact (hd t').le l2 (Le.refl _)) (hs.le l2 (Le.refl _)) (fun b o f => hb b o (l2 b o f))
    refine ⟨Fs', i1, fun b o f => ?_, fun r' q h x hm hx => ?_⟩
    · rcases i2 b o f with ⟨t', f⟩ | f
      · by_cases e : t' = r
        · subst e; rw [upd_same] at f
          exact f.elim (fun f => .inl ⟨t', g5 b o f⟩) (fun f => .inr (l1 b o f))
        · rw [upd_ne _ _ _ e] at f; exact .inl ⟨t', f⟩
      · exact .inr (l2 b o f)
    · obtain ⟨x1, hx1⟩ := i3 r' q h x hm hx
      exact hat' r' q h x1 hm hx1
  | @ag σ σ1 σ' cs ds ms as ts h k ih1 ih2 =>
    intro Fs Ft vs I hr he hd hs hb
    simp only [Reps] at hr
    obtain ⟨x, xs', F1, F2, rfl, h1, h2, hdd, l1, l2⟩ := hr
    simp only [ER, Rep] at he
    simp only [Rep] at h1
    obtain ⟨ys, rfl, h1a, h1b⟩ := h1
    obtain ⟨⟨ys', e, -, heb⟩, he⟩ := he
    cases e
    obtain ⟨Fs1, j1, j2, j3⟩ := ih1 I h1b (ER.all (F := noF) heb) (fun t => (hd t).le l1 (Le.refl _)) (hs.le l1 (Le.refl _)) (fun b o f => hb b o (l1 b o f))
    obtain ⟨Fs', i1, i2, i3⟩ := ih2 j1 h2 (he.mono (KE.mono j3)) (fun t b o f g => by
      rcases j2 b o ⟨t, g⟩ with ⟨t', g⟩ | g
      · exact hd t' b o (l2 b o f) g
      · exact hdd b o g f) (hs.le l2 (Le.refl _)) (fun b o f => hb b o (l2 b o f))
    refine ⟨Fs', i1, fun b o f => ?_, fun r' q h x hm hx => ?_⟩
    · rcases i2 b o f with f | f
      · exact (j2 b o f).imp id (l1 b o)
      · exact .inr (l2 b o f)
    · obtain ⟨x1, hx1⟩ := i3 r' q h x hm hx
      exact j3 r' q h x1 hm hx1

theorem run_call {f : FuncId} {xs : Array Operand} {ts : Array TypeId} {F : Func} {c : Code} (ho : o.op = .call { callee := .value (.func f), args := xs, argTypes := ts }) (hF : P.funcs[f]? = some F) (hc : F.body = some c) (hnm : (F.name == "runtime.NumGoroutine") = false) (w : World) :
    (execOp a.eval o).run P w = .ok (.enter f (xs.map a.eval)) w := by
  have hnm' : ¬ F.name = "runtime.NumGoroutine" := by simpa using hnm
  simp [execOp, ho, resolve, Act.eval, Deferred.ofValue, invoke, callFunc, hF, hnm', hc]
theorem reps_ovs (I : Inv w Sh Fs V σ) (hC : Ctx N V a) (xs : Array Operand) : Reps w Sh (KS w V σ) (xs.toList.map (ov σ)) noF (xs.map a.eval).toList := by
  rw [Array.toList_map]
  generalize xs.toList = l
  induction l with
  | nil => simp [Reps]
  | cons x l ih =>
    simp only [List.map_cons, Reps]
    exact ⟨_, _, noF, noF, rfl, I.ov hC.va x, ih, Disj.no _, Le.refl _, Le.refl _⟩
theorem upon_call {f : FuncId} {xs : Array Operand} {ts : Array TypeId} {F : Func} {c : Code} (ho : o.op = .call { callee := .value (.func f), args := xs, argTypes := ts }) (hF : P.funcs[f]? = some F) (hc : F.body = some c) (hnm : (F.name == "runtime.NumGoroutine") = false) {next : Act → World → Prop} {Q : Exit → Act → World → Prop} {R : Ending → World → Prop}
    (h : Calls P f (xs.map a.eval) w R) (k : ∀ e w', R e w' → ∃ v, e = .returned v ∧ next (a.put o.dst v) w') : o.wp P a w next Q := by
  unfold Oper.wp
  rw [run_call ho hF hc hnm w]
  exact h.mono fun e w' hR => by
    obtain ⟨v, rfl, hk⟩ := k e w' hR
    exact hk
theorem s_qcall {f : FuncId} {xs : Array Operand} {ts : Array TypeId} {args fin : List AV} {res : AV} (ho : o.op = .call { callee := .value (.func f), args := xs, argTypes := ts })
    (ha : FrzL σ (xs.toList.map (ov σ)) args) (hf : SFn P f args res fin) (hn : noIm res = true ∨ (xs.toList.map (ov σ)).all isPlA = true) : SQe P o σ res := by
  intro N w Sh Fs V a I hC next Q hnx
  obtain ⟨⟨F, c, hF, hc, hnm⟩, hcall⟩ := hf
  have hvs := reps_ovs I hC xs
  rcases hn with hn | hn
  · have hargs := ha.sound I hvs
    have := hcall w (Or Sh (T Fs)) noF (xs.map a.eval).toList hargs (Disj.no' _) (fun _ _ f => f.elim) (fun b o f => f.elim (I.sbd b o) (fun f => I.tbd b o f))
    rw [Array.toArray_toList] at this
    refine upon_call ho hF hc hnm this fun e w' hR => ?_
    obtain ⟨v, Sh', F', rfl, hr, hE, hd, hb1, hb2⟩ := hR
    simp only [Reps] at hr
    obtain ⟨x, xs', F1, F2, ex, h1, h2, hdd, l1, l2⟩ := hr
    cases ex
    have hnew : ∀ b o, F1 b o → w.heap.size ≤ b := fun b o f => by
      rcases hE.own b o (l1 b o f) with g | g
      · exact g.elim
      · exact g
    refine ⟨v, rfl, hnx v w' Sh F1 hE.keeps (Le.refl _) (fun b o f => .inl f) (fun b o f => Nat.lt_of_lt_of_le (I.sbd b o f) hE.keeps.size) (Rep.wider (Le.refl _) (fun _ _ h => h.elim) (Le.refl _) (Rep.noIm res hn h1)) (fun b o f => ⟨hnew b o f, hb1 b o (l1 b o f)⟩) (fun b o f s => ?_)⟩
    have := hnew b o f
    have := I.sbd b o s
    omega
  · have hargs : Reps w Sh KF args noF (xs.map a.eval).toList := by rw [ha.pl hn]; exact hvs.plA hn
    have := hcall w Sh noF (xs.map a.eval).toList hargs (Disj.no' _) (fun _ _ f => f.elim) I.sbd
    rw [Array.toArray_toList] at this
    refine upon_call ho hF hc hnm this fun e w' hR => ?_
    obtain ⟨v, Sh', F', rfl, hr, hE, hd, hb1, hb2⟩ := hR
    simp only [Reps] at hr
    obtain ⟨x, xs', F1, F2, ex, h1, h2, hdd, l1, l2⟩ := hr
    cases ex
    have hnew : ∀ b o, F1 b o → w.heap.size ≤ b := fun b o f => by
      rcases hE.own b o (l1 b o f) with g | g
      · exact g.elim
      · exact g
    refine ⟨v, rfl, hnx v w' Sh' F1 hE.keeps hE.sh (fun b o f => ?_) hb2 (Rep.wider (Le.refl _) (fun _ _ h => h.elim) (Le.refl _) h1) (fun b o f => ⟨hnew b o f, hb1 b o (l1 b o f)⟩) (hd.le l1 (Le.refl _))⟩
    rcases hE.new b o f with g | g | g
    · exact .inl g
    · exact g.elim
    · exact .inr g

/-- What was only read comes back as nothing. -/
def owOnly : List Bool → List AV → List AV
  | true :: ms, t :: ts => t :: owOnly ms ts
  | _ :: ms, _ :: ts => .dead :: owOnly ms ts
  | _, ts => ts.map fun _ => .dead
theorem Reps.owOnly : ∀ {ms : List Bool} {ts : List AV} {F : Foot} {vs : List Value}, owNo ms ts = true → Reps w Sh KF ts F vs → Reps w Sh' KF (Eng.owOnly ms ts) F vs
  | [], [], F, vs, hn, h => by simpa only [Eng.owOnly, List.map_nil, Reps] using h
  | [], t :: ts, F, vs, hn, h => by
    simp only [Reps] at h
    obtain ⟨x, xs', F1, F2, e, h1, h2, hd, l1, l2⟩ := h
    have := Reps.owOnly (ms := []) (by cases ts <;> rfl) h2
    simp only [Eng.owOnly, List.map_cons, Reps] at this ⊢
    exact ⟨x, xs', F1, F2, e, by simp only [Rep], this, hd, l1, l2⟩
  | true :: ms, [], F, vs, hn, h => by simpa only [Eng.owOnly, List.map_nil, Reps] using h
  | false :: ms, [], F, vs, hn, h => by simpa only [Eng.owOnly, List.map_nil, Reps] using h
  | true :: ms, t :: ts, F, vs, hn, h => by
    simp only [owNo, Bool.and_eq_true] at hn
    simp only [Reps] at h
    obtain ⟨x, xs', F1, F2, e, h1, h2, hd, l1, l2⟩ := h
    simp only [Eng.owOnly, Reps]
    exact ⟨x, xs', F1, F2, e, Rep.noIm t hn.1 h1, h2.owOnly hn.2, hd, l1, l2⟩
  | false :: ms, t :: ts, F, vs, hn, h => by
    simp only [owNo] at hn
    simp only [Reps] at h
    obtain ⟨x, xs', F1, F2, e, h1, h2, hd, l1, l2⟩ := h
    simp only [Eng.owOnly, Reps]
    exact ⟨x, xs', F1, F2, e, by simp only [Rep], h2.owOnly hn, hd, l1, l2⟩
theorem BackL.owOnly {σ σ' : Nat → AV} {ms : List Bool} {as ts : List AV} (h : BackL σ ms as ts σ') : BackL σ ms as (Eng.owOnly ms ts) σ' := by
  induction h with
  | nil σ => exact .nil σ
  | @skip σ σ' a t m ms as ts k ih => cases m <;> exact .skip ih
  | vw hn k ih => exact .vw hn ih
  | ad hn k ih => exact .ad hn ih
  | ag h k ih1 ih2 => exact .ag h ih2
theorem s_call {σ1 σ2 : Nat → AV} {f : FuncId} {xs : Array Operand} {ts : Array TypeId} {ms : List Bool} {args fin : List AV} {res : AV} (ho : o.op = .call { callee := .value (.func f), args := xs, argTypes := ts })
    (hp : PassL σ1 σ ms (xs.toList.map (ov σ)) args σ1) (hf : SFn P f args res fin) (hn : (noIm res = true ∧ owNo ms fin = true) ∨ roPl ms (xs.toList.map (ov σ)) = true) (hs : stab (owRefs ms (xs.toList.map (ov σ))) = true) (hb : BackL σ1 ms (xs.toList.map (ov σ)) fin σ2) : SOp P o σ (putD σ2 o.dst res) := by
  intro N w Sh Fs V a I hC hdk next Q hnx
  obtain ⟨⟨F, c, hF, hc, hnm⟩, hcall⟩ := hf
  have hvs := reps_ovs I hC xs
  obtain ⟨Fs1, Ft, I1, i3, i4, i5, i6, i7, i8, i9⟩ := hp.sound (S := owRefs ms (xs.toList.map (ov σ))) (fun x hx => hx) I hvs
  have hbt : Bd w Ft := fun b o f => by obtain ⟨r, g⟩ := i5 b o f; exact I.bnd r b o g
  have hst : Disj Ft Sh := fun b o f s => by obtain ⟨r, g⟩ := i5 b o f; exact I.shd r b o g s
  have hsub : Le (T Fs1) (T Fs) := fun b o ⟨r, f⟩ => ⟨r, i3 r b o f⟩
  have hsubt : Le Ft (T Fs) := i5
  -- behind the call: what came back, in terms of what is read here
  have fin_ : ∀ (v : Value) (w' : World) (Sh' F' : Foot) (fin' : List AV), BackL σ1 ms (xs.toList.map (ov σ)) fin' σ2 → Reps w' Sh' KF (res :: fin') F' (v :: (xs.map a.eval).toList) → Keeps Ft w w' → Le Sh Sh' → (∀ b o, Sh' b o → Sh b o ∨ Ft b o ∨ w.heap.size ≤ b) → (∀ b o, F' b o → Ft b o ∨ w.heap.size ≤ b) → Disj F' Sh' → Bd w' F' → Bd w' Sh' → next (a.put o.dst v) w' := by
    intro v w' Sh' F' fin' hb hr hk hSS hnew hown hd hb1 hb2
    have hF1 : ∀ t, Disj F' (Fs1 t) := fun t b o f g => by
      rcases hown b o f with h | h
      · exact i4 t b o h g
      · exact absurd (I1.bnd t b o g) (by omega)
    have hs1 : ∀ t, Disj (Fs1 t) Sh' := fun t b o f g => by
      rcases hnew b o g with h | h | h
      · exact I1.shd t b o f h
      · exact i4 t b o h f
      · exact absurd (I1.bnd t b o f) (by omega)
    have I1' : Inv w' Sh' Fs1 V σ1 := I1.frame hk i4 hst.symm hSS hs1 hb2
    simp only [Reps] at hr
    obtain ⟨x, xs', F1, F2, ex, h1, h2, hdd, l1, l2⟩ := hr
    cases ex
    have hER : ER w' Sh' (KE w' V σ1 (owRefs ms (xs.toList.map (ov σ)))) ms (xs.toList.map (ov σ)) (xs.map a.eval).toList :=
      i7.frame hk hst.symm hSS (KE.mono fun r q h x _ hx => ⟨x, hx.frame hk (I1.rep r) (i4 r)⟩)
    obtain ⟨Fs2, I2, j2, -⟩ := hb.sound hs I1' h2 hER (fun t => (hF1 t).le l2 (Le.refl _)) (hd.le l2 (Le.refl _)) (fun b o f => hb1 b o (l2 b o f))
    have hF1' : ∀ t, Disj F1 (Fs2 t) := fun t b o f g => by
      rcases j2 b o ⟨t, g⟩ with ⟨t', g⟩ | g
      · exact hF1 t' b o (l1 b o f) g
      · exact hdd b o f g
    obtain ⟨Fs', V', k1, k2, k3, k4⟩ := land (o := o) (av := res) (v := v) (Sh' := Sh') (Fd := F1) I2 hC hdk (F0 := F1) (Keeps.refl noF w') (fun _ => Disj.no' _) (Disj.no _) (Le.refl _) (fun b o f => .inl f) hb2 (Rep.wider (Le.refl _) (fun _ _ h => h.elim) (Le.refl _) h1) (fun b o f => ⟨.inl f, hb1 b o (l1 b o f)⟩) (hd.le l1 (Le.refl _)) hF1' (fun _ _ _ f => f.elim)
    refine hnx _ _ _ _ _ k1 k2 (put_defers _ _ _) k3 ?_
    have hall : ∀ b o, T Fs2 b o ∨ F1 b o → T Fs b o ∨ w.heap.size ≤ b := by
      intro b o f
      rcases f with f | f
      · rcases j2 b o f with g | g
        · exact .inl (hsub b o g)
        · exact (hown b o (l2 b o g)).imp (hsubt b o) id
      · exact (hown b o (l1 b o f)).imp (hsubt b o) id
    have hE1 : Ext w Sh (T Fs) w' Sh' (Or (T Fs2) F1) := ⟨hk.mono hsubt, hSS, fun b o f => by
      rcases hnew b o f with g | g | g
      · exact .inl g
      · exact .inr (.inl (hsubt b o g))
      · exact .inr (.inr g), fun b o f => hall b o f⟩
    exact hE1.trans k4
  rcases hn with ⟨hn1, hn2⟩ | hn
  · have hargs := i8 I1 (fun _ _ _ x h => ⟨x, h⟩)
    have := hcall w (Or Sh (T Fs1)) Ft (xs.map a.eval).toList hargs (Disj.or hst (fun b o f ⟨t, g⟩ => i4 t b o f g)) hbt (fun b o f => f.elim (I.sbd b o) (fun f => I1.tbd b o f))
    rw [Array.toArray_toList] at this
    refine upon_call ho hF hc hnm this fun e w' hR => ?_
    obtain ⟨v, Sh', F', rfl, hr, hE, hd, hb1, hb2⟩ := hR
    have hSS' : Le Sh Sh' := (Le.left _ _).trans hE.sh
    refine ⟨v, rfl, fin_ v w' Sh F' (owOnly ms fin) hb.owOnly ?_ hE.keeps (Le.refl _) (fun b o f => .inl f) (fun b o f => hE.own b o f) (hd.le (Le.refl _) hSS') hb1 (fun b o f => Nat.lt_of_lt_of_le (I.sbd b o f) hE.keeps.size)⟩
    simp only [Reps] at hr ⊢
    obtain ⟨x, xs', F1, F2, ex, h1, h2, hdd, l1, l2⟩ := hr
    exact ⟨x, xs', F1, F2, ex, Rep.noIm res hn1 h1, h2.owOnly hn2, hdd, l1, l2⟩
  · have hargs := i9 hn
    have := hcall w Sh Ft (xs.map a.eval).toList hargs hst hbt I.sbd
    rw [Array.toArray_toList] at this
    refine upon_call ho hF hc hnm this fun e w' hR => ?_
    obtain ⟨v, Sh', F', rfl, hr, hE, hd, hb1, hb2⟩ := hR
    exact ⟨v, rfl, fin_ v w' Sh' F' fin hb hr hE.keeps hE.sh hE.new hE.own hd hb1 hb2⟩
end
end Go.Eng
