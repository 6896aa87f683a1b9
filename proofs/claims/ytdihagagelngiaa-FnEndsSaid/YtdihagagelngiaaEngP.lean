/- The engine, part P: code and functions bear it out: the soundness of the whole relation. -/
import Derived.Test.YtdihagagelngiaaEngO
namespace Go.Eng
open Go
set_option linter.unusedVariables false
set_option linter.unusedSimpArgs false
section
variable {P : Program} {w w' : World} {Sh Sh' : Foot} {Fs : Nat → Foot} {V : Nat → Value} {σ : Nat → AV} {a : Act} {o : Oper} {N : Nat}

theorem s_opsCons {all : Array Oper} {l : List Oper} {σ1 σ2 : Nat → AV} (hg : goes all σ o = some true) (h : SOp P o σ σ1) (k : SOps P all l σ1 σ2) : SOps P all (o :: l) σ σ2 := by
  intro N w Sh Fs V a I hC hd Q hn
  simp only [List.all_cons, Bool.and_eq_true] at hd
  refine wpList_step fun K hK => ?_
  rw [goes_sound I hC hg]
  simp only [if_true]
  refine h N w Sh Fs V a I hC hd.1 K Q fun a' w' Sh' Fs' V' i1 i2 i3 i4 i5 => hK _ _ ?_
  exact k N w' Sh' Fs' V' a' i1 i2 hd.2 Q (hn.trans i3 i4 i5)
theorem s_opsSkip {all : Array Oper} {l : List Oper} {σ2 : Nat → AV} (hg : goes all σ o = some false) (k : SOps P all l (putD σ o.dst (.tu [])) σ2) : SOps P all (o :: l) σ σ2 := by
  intro N w Sh Fs V a I hC hd Q hn
  simp only [List.all_cons, Bool.and_eq_true] at hd
  refine wpList_step fun K hK => ?_
  rw [goes_sound I hC hg]
  simp only [Bool.false_eq_true, if_false]
  refine hK _ _ (skip_putT I hC hd.1 (K := wpList P all Q l) fun a' w' Sh' Fs' V' i1 i2 i3 i4 i5 => ?_)
  exact k N w' Sh' Fs' V' a' i1 i2 hd.2 Q (hn.trans i3 i4 i5)
/-- What is owned is only read from now on. -/
theorem Inv.hardS {r : Nat} {p : List Nat} {x : AV} (I : Inv w Sh Fs V σ) (hn : getN p (σ r) = some x) (hx : isOw x = true) : ∃ Sh' Fs', Inv w Sh' Fs' V (setS σ r p (hard x)) ∧ Ext w Sh (T Fs) w Sh' (T Fs') := by
  obtain ⟨f, u, Fx, Fr, hf, g1, g2, g3, g4, g5, g6⟩ := I.mod hn
  have hb : Bd w (Or Sh Fx) := fun b o f => f.elim (I.sbd b o) (fun f => I.bnd r b o (g4 b o f))
  obtain ⟨I', -⟩ := g6 (w' := w) (Sh' := Or Sh Fx) (G := noF) (Fx' := noF) (x' := hard x) (bad := fun _ _ => false) (Keeps.refl _ _) (Disj.no' _) (fun _ _ => Disj.no' _) (Disj.no _) (Le.left _ _) (fun t ht => Disj.or (I.shd t) ((I.dis t r ht).le (Le.refl _) g4)) (Disj.or ((I.shd r).le g5 (Le.refl _)) g3.symm) (Rep.hard x g1) (Disj.no' _) (fun _ _ => Disj.no' _) (Disj.no' _) (fun _ _ f => f.elim) hb
    (fun j t h y _ k => by cases x <;> simp only [isOw, Bool.false_eq_true] at hx <;> simp only [hard] at k <;> cases k)
  rw [modS_no] at I'
  refine ⟨_, _, I', Keeps.refl _ _, Le.left _ _, fun b o f => f.elim .inl (fun f => .inr (.inl ⟨r, g4 b o f⟩)), fun b o ⟨t, f⟩ => ?_⟩
  by_cases e : t = r
  · subst e; rw [upd_same] at f
    exact f.elim (fun f => .inl ⟨t, g5 b o f⟩) (fun f => f.elim)
  · rw [upd_ne _ _ _ e] at f; exact .inl ⟨t, f⟩
theorem Inv.castS {r : Nat} {p : List Nat} {x : AV} (I : Inv w Sh Fs V σ) (hn : getN p (σ r) = some .nl) (hx : CastN x) : ∃ Fs', Inv w Sh Fs' V (setS σ r p x) ∧ Ext w Sh (T Fs) w Sh (T Fs') := by
  obtain ⟨f, u, Fx, Fr, hf, g1, g2, g3, g4, g5, g6⟩ := I.mod hn
  simp only [Rep] at g1
  subst g1
  have hr : Rep w Sh KF x noF (.slice none 0 0) := by
    cases hx with
    | im =>
      simp only [Rep, Reps]
      exact ⟨none, 0, [], rfl, Nat.le_refl _, fun h => absurd rfl h, by simp, rfl⟩
    | ow e sz h =>
      simp only [Rep, Reps]
      exact ⟨[], noF, World.ownsRow_nil w 0 e sz, h, fun g hg => by simp [Value.ownBlock] at hg, by simp, Le.refl _, rfl⟩
  obtain ⟨I', -⟩ := g6 (w' := w) (Sh' := Sh) (G := noF) (Fx' := noF) (x' := x) (bad := fun _ _ => false) (Keeps.refl _ _) (Disj.no' _) (fun _ _ => Disj.no' _) (Disj.no _) (Le.refl _) (fun t _ => I.shd t) ((I.shd r).le g5 (Le.refl _)) hr (Disj.no' _) (fun _ _ => Disj.no' _) (Disj.no' _) (fun _ _ f => f.elim) I.sbd
    (fun j t h y _ k => by
      cases hx with
      | im => cases k
      | ow e sz h => cases k)
  rw [modS_no] at I'
  refine ⟨_, I', Keeps.refl _ _, Le.refl _, fun b o f => .inl f, fun b o ⟨t, f⟩ => ?_⟩
  by_cases e : t = r
  · subst e; rw [upd_same] at f
    exact f.elim (fun f => .inl ⟨t, g5 b o f⟩) (fun f => f.elim)
  · rw [upd_ne _ _ _ e] at f; exact .inl ⟨t, f⟩

/-! Code. -/
theorem loop_of_LW {c : Code} {Q : Exit → Act → World → Prop} (h : LW P c Q a w) : (Code.loop c).wp P Q a w :=
  fun b k cs => let ⟨e, a', w', q, r⟩ := h b k cs; ⟨e, a', w', q, .of_steps (.one step_loop) r⟩
theorem LW_step {c : Code} {Q : Exit → Act → World → Prop} (h : c.wp P (Exit.then (LW P c Q) Q) a w) : LW P c Q a w := by
  intro b k cs
  obtain ⟨e, a₁, w₁, hq, harr⟩ := h b (.inLoop c :: k) cs
  cases e with
  | normal =>
    obtain ⟨e₂, a₂, w₂, hq₂, harr₂⟩ := hq b k cs
    exact ⟨e₂, a₂, w₂, hq₂, .of_steps (Steps.trans harr (.one step_inLoop)) harr₂⟩
  | exit id => exact ⟨_, a₁, w₁, hq, .pass (x := .inLoop c) rfl (fun _ _ => .inl (by simp)) harr⟩
  | goto l => exact ⟨_, a₁, w₁, hq, .pass (x := .inLoop c) rfl (fun _ _ => .inl (by simp)) harr⟩
  | ret => exact ⟨_, a₁, w₁, hq, .pass (x := .inLoop c) rfl (fun _ _ => .inl (by simp)) harr⟩
  | panic ch => exact ⟨_, a₁, w₁, hq, .pass (x := .inLoop c) rfl (fun _ _ => .inl (by simp)) harr⟩
  | outgrown => exact ⟨_, a₁, w₁, hq, .pass (x := .inLoop c) rfl (fun _ _ => .inl (by simp)) harr⟩
theorem ex_then {ex : Ex} {next : Act → World → Prop} {Q : Exit → Act → World → Prop} (hx : ex ≠ .normal) (a : Act) (w : World) : Exit.then next Q ex.toExit a w = Q ex.toExit a w := by
  cases ex <;> first | exact absurd rfl hx | rfl
theorem ex_inB {ex : Ex} {id : Nat} {Q : Exit → Act → World → Prop} (a : Act) (w : World) : Exit.inBlock id Q ex.toExit a w = Q (ex.inB id).toExit a w := by
  cases ex <;> simp only [Ex.toExit, Exit.inBlock, Ex.inB]
  split <;> rfl
theorem dok_all {N id : Nat} {ops : Array Oper} {d : Bool} (h : codeOk N (.region id ops d) = true) : ops.toList.all (dok N) = true := by
  unfold codeOk at h
  exact h

/-! Functions. -/
theorem Reps.foots : ∀ {cs : List AV} {F : Foot} {xs : List Value}, Reps w Sh KF cs F xs → ∃ Fi : Nat → Foot, (∀ i c, cs[i]? = some c → ∃ x, xs[i]? = some x ∧ Rep w Sh KF c (Fi i) x) ∧ (∀ i j, i ≠ j → Disj (Fi i) (Fi j)) ∧ (∀ i, Le (Fi i) F) ∧ (∀ i, cs.length ≤ i → Fi i = noF)
  | [], F, xs, h => ⟨fun _ => noF, fun i c h => by simp at h, fun _ _ _ => Disj.no _, fun _ => Le.no _, fun _ _ => rfl⟩
  | c :: cs, F, xs, h => by
    simp only [Reps] at h
    obtain ⟨x, xs', F1, F2, rfl, h1, h2, hd, l1, l2⟩ := h
    obtain ⟨Fi, g1, g2, g3, g4⟩ := h2.foots
    refine ⟨fun i => match i with | 0 => F1 | i + 1 => Fi i, fun i c' hc => ?_, fun i j hij => ?_, fun i => ?_, fun i hi => ?_⟩
    · cases i with
      | zero => simp only [List.getElem?_cons_zero, Option.some.injEq] at hc; subst hc; exact ⟨x, rfl, h1⟩
      | succ i => exact g1 i c' hc
    · cases i with
      | zero =>
        cases j with
        | zero => exact absurd rfl hij
        | succ j => exact hd.le (Le.refl _) (g3 j)
      | succ i =>
        cases j with
        | zero => exact (hd.le (Le.refl _) (g3 i)).symm
        | succ j => exact g2 i j (by omega)
    · cases i with
      | zero => exact l1
      | succ i => exact (g3 i).trans l2
    · cases i with
      | zero => simp at hi
      | succ i => exact g4 i (by simpa using hi)
mutual
theorem Rep.noRf : ∀ (a : AV) {K : Value → AV → Prop} {F : Foot} {v : Value}, Eng.noRf a = true → Rep w Sh K a F v → Rep w Sh KF a F v
  | .sc _, _, _, _, _, h => by simpa only [Rep] using h
  | .nl, _, _, _, _, h => by simpa only [Rep] using h
  | .im .., _, _, _, _, h => by simpa only [Rep] using h
  | .ow .., _, _, _, _, h => by simpa only [Rep] using h
  | .ip _, _, _, _, _, h => by simpa only [Rep] using h
  | .op _, _, _, _, _, h => by simpa only [Rep] using h
  | .dead, _, _, _, _, h => by simp only [Rep]
  | .vw .., _, _, _, hn, h => by simp [Eng.noRf] at hn
  | .ad .., _, _, _, hn, h => by simp [Eng.noRf] at hn
  | .ag cs, _, _, _, hn, h => by
    simp only [Eng.noRf] at hn
    simp only [Rep] at h ⊢
    obtain ⟨xs, e, h1, hr⟩ := h
    exact ⟨xs, e, h1, Reps.noRf cs hn hr⟩
  | .tu cs, _, _, _, hn, h => by
    simp only [Eng.noRf] at hn
    simp only [Rep] at h ⊢
    obtain ⟨xs, e, hr⟩ := h
    exact ⟨xs, e, Reps.noRf cs hn hr⟩
theorem Reps.noRf : ∀ (cs : List AV) {K : Value → AV → Prop} {F : Foot} {xs : List Value}, noRfL cs = true → Reps w Sh K cs F xs → Reps w Sh KF cs F xs
  | [], _, _, _, _, h => by simpa only [Reps] using h
  | c :: cs, _, _, _, hn, h => by
    simp only [noRfL, Bool.and_eq_true] at hn
    simp only [Reps] at h ⊢
    obtain ⟨x, xs', F1, F2, e, h1, h2, hd, l1, l2⟩ := h
    exact ⟨x, xs', F1, F2, e, Rep.noRf c hn.1 h1, Reps.noRf cs hn.2 h2, hd, l1, l2⟩
end
def resV : List Value → Value
  | [v] => v
  | vs => .tuple vs.toArray
theorem run_results {rs : List ResultVar} {as : List AV} (I : Inv w Sh Fs V σ) (hC : Ctx N V a) (h : ResL P σ rs as) : ∃ vs, Reps w Sh (KS w V σ) as noF vs ∧
    Sem.run P (rs.mapM (fun (x : ResultVar) => (match x with
      | ResultVar.tmp t => pure (a.tmps.getD t undef)
      | ResultVar.cell b t => do loadVar t (← asAddr (a.tmps.getD b undef)) : Sem Value))) w = Result.ok vs w := by
  induction h with
  | nil => exact ⟨[], by simp [Reps], by simp⟩
  | @tmp t rs as k ih =>
    obtain ⟨vs, h1, h2⟩ := ih
    refine ⟨a.tmps.getD t undef :: vs, ?_, ?_⟩
    · simp only [Reps]; exact ⟨_, vs, noF, noF, rfl, I.ov hC.va (.tmp t), h1, Disj.no _, Le.refl _, Le.refl _⟩
    · simp only [List.mapM_cons, Sem.run_bind, Sem.run_pure, Result.andThen_ok, h2]
  | @cell b t c rs as h k ih =>
    obtain ⟨vs, h1, h2⟩ := ih
    have hl : ∃ ad y, a.tmps.getD b undef = .pointer (some ad) ∧ (loadVar t ad).run P w = .ok y w ∧ Rep w Sh (KS w V σ) c noF y := by
      cases h with
      | one c ht hc => exact load_one I (I.ov hC.va (.tmp b)) ht hc
      | many L s ht hs hl h0 hc => exact load_many I (I.ov hC.va (.tmp b)) ht hs hl h0 hc
    obtain ⟨ad, y, e1, e2, e3⟩ := hl
    refine ⟨y :: vs, ?_, ?_⟩
    · simp only [Reps]; exact ⟨_, vs, noF, noF, rfl, e3, h1, Disj.no _, Le.refl _, Le.refl _⟩
    · have ha : (asAddr (a.tmps.getD b undef)).run P w = .ok ad w := by rw [e1]; rfl
      simp only [List.mapM_cons, Sem.run_bind, ha, Sem.run_pure, Result.andThen_ok, e2, h2]
theorem run_results' {F : Func} {as : List AV} (I : Inv w Sh Fs V σ) (hC : Ctx N V a) (h : ResL P σ F.results.toList as) : ∃ vs, Reps w Sh (KS w V σ) as noF vs ∧ (results F a.tmps).run P w = .ok (resV vs) w := by
  obtain ⟨vs, h1, this⟩ := run_results I hC h
  refine ⟨vs, h1, ?_⟩
  unfold results
  rw [Array.mapM_eq_mapM_toList]
  simp only [Sem.run_bind, Sem.run_map, Sem.run_pure]
  refine (congrArg (fun (r : Result (List Value)) => (r.andThen fun a w' => Result.ok a.toArray w').andThen fun a w' => Result.ok (if h : a.size = 1 then a[0] else Value.tuple a) w') this).trans ?_
  simp only [Result.andThen_ok]
  cases vs with
  | nil => rfl
  | cons t ts =>
    cases ts with
    | nil => rfl
    | cons u us => simp [resV]
theorem getD_append_left {α : Type} (xs ys : Array α) (d : α) {i : Nat} (h : i < xs.size) : (xs ++ ys).getD i d = xs.getD i d := by
  simp [Array.getElem?_append_left h]
theorem s_fn {f : FuncId} {F : Func} {c : Code} {args rs as : List AV} {σ1 σ2 : Nat → AV} {ex : Ex} (hF : P.funcs[f]? = some F) (hc : F.body = some c) (hnm : (F.name == "runtime.NumGoroutine") = false) (hN : F.ntmps ≤ HB) (hA : args.length ≤ F.ntmps) (hK : codeOk F.ntmps c = true) (h : SCode P c (enter args) ex σ1) (hx : ex = .normal ∨ ex = .ret)
    (hr : ResL P σ1 F.results.toList as) (hT : TakeL σ1 as rs σ2) (hf : (fins args.length σ2).all noRf = true) : SFn P f args (resOf rs) (fins args.length σ2) := by
  refine ⟨⟨F, c, hF, hc, hnm⟩, ?_⟩
  intro w Sh F0 vs hargs hd hbF hbS
  have hlen : args.length = vs.length := hargs.length
  obtain ⟨Fi, g1, g2, g3, g4⟩ := hargs.foots
  let a0 : Act := { tmps := vs.toArray ++ Array.replicate (F.ntmps - vs.toArray.size) undef, defers := [] }
  let V : Nat → Value := fun t => if t < HB then a0.tmps.getD t undef else vs.getD (t - HB) undef
  let Fs : Nat → Foot := fun t => if t < HB then noF else Fi (t - HB)
  have hVt : ∀ t, HB ≤ t → V t = vs.getD (t - HB) undef := fun t ht => by simp only [V]; rw [if_neg (by omega)]
  have hσt : ∀ t, HB ≤ t → enter args t = args.getD (t - HB) .dead := fun t ht => by unfold enter; rw [if_neg (by omega)]
  have hsz : a0.tmps.size = F.ntmps := by simp only [a0, Array.size_append, Array.size_replicate, List.size_toArray]; omega
  have hhid : ∀ t, HB ≤ t → Rep w Sh KF (enter args t) (Fi (t - HB)) (V t) := by
    intro t ht
    rw [hσt t ht, hVt t ht]
    cases hi : args[t - HB]? with
    | none => simp only [List.getD_eq_getElem?_getD, hi, Option.getD_none, Rep]
    | some c =>
      obtain ⟨x, hx, hrep⟩ := g1 _ _ hi
      simp only [List.getD_eq_getElem?_getD, hi, hx, Option.getD_some]
      exact hrep
  have I0 : Inv w Sh Fs V (enter args) := by
    refine ⟨fun t => ?_, fun s t hst => ?_, fun t b o f s => ?_, fun t b o f => ?_, hbS⟩
    · by_cases ht : t < HB
      · simp only [Fs, if_pos ht]
        by_cases hta : t < args.length
        · have he : enter args t = refT (HB + t) [] (args.getD t .dead) := by unfold enter; rw [if_pos ht, if_pos hta]
          have hv : V t = V (HB + t) := by
            rw [hVt (HB + t) (by omega)]
            simp only [V, if_pos ht]
            rw [getD_append_left _ _ _ (by simp; omega)]
            simp [Nat.add_sub_cancel_left, List.getD_eq_getElem?_getD]
          have he2 : enter args (HB + t) = args.getD t .dead := by rw [hσt _ (by omega)]; simp [Nat.add_sub_cancel_left]
          rw [he, hv, ← he2]
          exact Rep.ref (HB + t) _ [] (fun _ _ h => h.elim) (hhid (HB + t) (by omega)) (fun _ _ _ h => h)
        · have : enter args t = .dead := by unfold enter; rw [if_pos ht, if_neg hta]
          rw [this]; simp only [Rep]
      · simp only [Fs, if_neg ht]
        exact Rep.wider (Le.refl _) (fun _ _ h => h.elim) (Le.refl _) (hhid t (by omega))
    · simp only [Fs]
      by_cases h1 : s < HB <;> by_cases h2 : t < HB <;> simp only [h1, h2, if_true, if_false]
      · exact Disj.no _
      · exact Disj.no' _
      · exact Disj.no _
      · exact g2 _ _ (by omega)
    · simp only [Fs] at f
      split at f
      · exact f.elim
      · exact hd b o (g3 _ b o f) s
    · simp only [Fs] at f
      split at f
      · exact f.elim
      · exact hbF b o (g3 _ b o f)
  have hTF : Le (T Fs) F0 := fun b o ⟨t, f⟩ => by
    simp only [Fs] at f
    split at f
    · exact f.elim
    · exact g3 _ b o f
  have C0 : Ctx F.ntmps V a0 := ⟨fun t ht => by simp only [V, if_pos ht], hsz, hN⟩
  refine calls_of_wp hF hc ?_
  refine (h F.ntmps w Sh Fs V a0 I0 C0 hK _ fun a' w' Sh' Fs' V' i1 i2 i3 i4 i5 => ?_).1
  obtain ⟨us, hops, hres⟩ := run_results' i1 i2 hr
  obtain ⟨Fs2, Ft2, I2, k1, k2, k3, k4, -⟩ := hT.sound i1 hops
  have hV' : ∀ i, i < args.length → vs[i]? = some (V' (HB + i)) := by
    intro i hi
    rw [i4 _ (by omega), hVt _ (by omega), Nat.add_sub_cancel_left, List.getD_eq_getElem?_getD, List.getElem?_eq_getElem (by omega)]
    rfl
  have hfin : ∀ n, n ≤ args.length → Reps w' Sh' KF (fins n σ2) (fun b o => ∃ i, i < n ∧ Fs2 (HB + i) b o) (vs.take n) := by
    intro n
    induction n with
    | zero => intro _; simp [fins, Reps]
    | succ n ih =>
      intro hn
      have e1 : fins (n + 1) σ2 = fins n σ2 ++ [σ2 (HB + n)] := by simp [fins, List.range_succ]
      have e2 : vs.take (n + 1) = vs.take n ++ [V' (HB + n)] := by
        rw [List.take_add_one, hV' n (by omega)]; rfl
      rw [e1, e2]
      have hrf : noRf (σ2 (HB + n)) = true := List.all_eq_true.1 hf _ (by simp only [fins, List.mem_map, List.mem_range]; exact ⟨n, by omega, rfl⟩)
      have hone : Reps w' Sh' KF [σ2 (HB + n)] (Fs2 (HB + n)) [V' (HB + n)] := Reps.one (Rep.noRf _ hrf (I2.rep (HB + n)))
      refine Reps.wider (Le.refl _) (fun _ _ h => h) ?_ ((ih (by omega)).append hone (fun b o ⟨i, hi, f⟩ g => I2.dis (HB + i) (HB + n) (by omega) b o f g))
      exact Le.or (fun b o ⟨i, hi, f⟩ => ⟨i, by omega, f⟩) (fun b o f => ⟨n, by omega, f⟩)
  have hfinal := hfin args.length (Nat.le_refl _)
  rw [List.take_of_length_le (by omega)] at hfinal
  have hresR : Rep w' Sh' KF (resOf rs) Ft2 (resV us) := by
    have hl := k1.length
    cases rs with
    | nil =>
      have : us = [] := List.eq_nil_of_length_eq_zero (by simpa using hl.symm)
      subst this
      simp only [resOf, resV, Rep]
      exact ⟨_, rfl, k1⟩
    | cons r rs =>
      cases rs with
      | nil =>
        obtain ⟨v, hv, hrep⟩ := k1.of_one
        rw [hv]; exact hrep
      | cons r2 rs =>
        cases us with
        | nil => simp at hl
        | cons u us =>
          cases us with
          | nil => simp at hl
          | cons u2 us =>
            simp only [resOf, resV, Rep]
            exact ⟨_, rfl, by simpa using k1⟩
  have hdis : Disj Ft2 (fun b o => ∃ i, i < args.length ∧ Fs2 (HB + i) b o) := fun b o f ⟨i, _, g⟩ => k3 _ b o f g
  have hsubT : Le (Or Ft2 (fun b o => ∃ i, i < args.length ∧ Fs2 (HB + i) b o)) (T Fs') := Le.or k4 (fun b o ⟨i, _, f⟩ => ⟨HB + i, k2 _ b o f⟩)
  have hR : ∃ v, (results F a'.tmps).run P w' = .ok v w' ∧ (∃ v_1 Sh'' F', Ending.returned v = .returned v_1 ∧ Reps w' Sh'' KF (resOf rs :: fins args.length σ2) F' (v_1 :: vs) ∧ Ext w Sh F0 w' Sh'' F' ∧ Disj F' Sh'' ∧ Bd w' F' ∧ Bd w' Sh'') := by
    refine ⟨_, hres, _, Sh', Or Ft2 (fun b o => ∃ i, i < args.length ∧ Fs2 (HB + i) b o), rfl, ?_, ?_, ?_, ?_, i1.sbd⟩
    · simp only [Reps]
      exact ⟨_, vs, _, _, rfl, hresR, hfinal, hdis, Le.left _ _, Le.right _ _⟩
    · refine ⟨i5.keeps.mono hTF, i5.sh, fun b o f => ?_, fun b o f => ?_⟩
      · rcases i5.new b o f with g | g | g
        · exact .inl g
        · exact .inr (.inl (hTF b o g))
        · exact .inr (.inr g)
      · exact (i5.own b o (hsubT b o f)).imp (hTF b o) id
    · exact (i1.tdis).le hsubT (Le.refl _)
    · exact fun b o f => i1.tbd b o (hsubT b o f)
  rcases hx with rfl | rfl <;> exact ⟨i3, hR⟩

theorem Reps.deads : ∀ {cs cs' : List AV} {F : Foot} {xs : List Value}, cs.length = cs'.length → (∀ i : Nat, cs'[i]? = cs[i]? ∨ cs'[i]? = some AV.dead) → Reps w Sh KF cs F xs → Reps w Sh KF cs' F xs
  | [], [], F, xs, hl, hd, h => h
  | [], _ :: _, F, xs, hl, hd, h => by simp at hl
  | _ :: _, [], F, xs, hl, hd, h => by simp at hl
  | c :: cs, c' :: cs', F, xs, hl, hd, h => by
    simp only [Reps] at h ⊢
    obtain ⟨x, xs', F1, F2, e, h1, h2, hdd, l1, l2⟩ := h
    refine ⟨x, xs', F1, F2, e, ?_, Reps.deads (by simpa using hl) (fun i => by simpa using hd (i + 1)) h2, hdd, l1, l2⟩
    rcases hd 0 with h0 | h0
    · simp only [List.getElem?_cons_zero, Option.some.injEq] at h0; rw [h0]; exact h1
    · simp only [List.getElem?_cons_zero, Option.some.injEq] at h0; rw [h0]; simp only [Rep]
theorem s_fnDead {f : FuncId} {args fin fin' : List AV} {res : AV} (h : SFn P f args res fin) (hd : fin.length = fin'.length ∧ ∀ i : Nat, fin'[i]? = fin[i]? ∨ fin'[i]? = some AV.dead) : SFn P f args res fin' := by
  refine ⟨h.1, fun w Sh F vs h1 h2 h3 h4 => (h.2 w Sh F vs h1 h2 h3 h4).mono fun e w' ⟨v, Sh', F', r1, r2, r3⟩ => ⟨v, Sh', F', r1, ?_, r3⟩⟩
  exact Reps.deads (by simpa using hd.1) (fun i => by
    cases i with
    | zero => exact .inl rfl
    | succ i => simpa using hd.2 i) r2

/-- THE SOUNDNESS OF THE RELATION. -/
theorem Ev.sound {X : FuncId → List AV → AV → List AV → Prop} (hm : P.follows .mixedOrders = true) (hX : ∀ f args res fin, X f args res fin → SFn P f args res fin) {j : Job} (h : Ev P X j) : Sound P j := by
  induction h with
  | qo h => exact s_qo h
  | qcall ho ha hf hn ih => exact s_qcall ho ha ih hn
  | quiet h ih => exact s_quiet ih
  | take ho hd h => exact s_take ho hd h
  | store ho hx hr h hv hs hS => exact s_store ho hx hr h hv hs hS
  | box ho hd h hc => exact s_box ho hd h hc
  | buildS ho hd ht hs hz hzs h0 hl h1 h hf => exact s_buildS ho hd ht hs hz hzs h0 hl h1 h hf
  | appendC ho hd ht hs hb hz hzs h0 h hB hc hL h63 hby => exact s_appendC ho hd ht hs hb hz hzs h0 h hB hc hL h63 hby
  | appendN ho hd ht hs h hB hc => exact s_appendN ho hd ht hs h hB hc
  | appendM ho hd ht hs hb hz hzs h0 h hB h63 hby => exact s_appendM ho hd ht hs hb hz hzs h0 h hB h63 hby
  | call ho hp hf hn hs hb ih => exact s_call ho hp ih hn hs hb
  | opsNil all σ => exact fun N w Sh Fs V a I hC _ Q hn => hn.here I hC
  | opsCons hg h k ih1 ih2 => exact s_opsCons hg ih1 ih2
  | opsSkip hg k ih => exact s_opsSkip hg ih
  | opsDrop hd k ih => exact fun N w Sh Fs V a I hC hk Q hn => ih N w Sh Fs V a (I.drop hd) hC hk Q hn
  | opsHard hn hx k ih =>
    intro N w Sh Fs V a I hC hk Q hnx
    obtain ⟨Sh', Fs', I', hE⟩ := I.hardS hn hx
    exact ih N w Sh' Fs' V a I' hC hk Q (hnx.trans rfl (fun _ _ => rfl) hE)
  | opsCast hn hx k ih =>
    intro N w Sh Fs V a I hC hk Q hnx
    obtain ⟨Fs', I', hE⟩ := I.castS hn hx
    exact ih N w Sh Fs' V a I' hC hk Q (hnx.trans rfl (fun _ _ => rfl) hE)
  | drNil all anc quiet gen σ => rfl
  | @drQuiet all anc quiet gen i d l o σ σ2 av hi hq hq2 hd hg h h1 h2 h3 k ih1 ih2 =>
    refine ⟨over [d] (fun _ => av) σ, .inl ⟨o, [d], fun _ => av, ⟨hi, fun t ht => by rw [hd, hq2]; simpa using ht, fun d' hd' => by rw [hd] at hd'; cases hd'; exact ⟨h1, h2, fun _ => h3⟩, fun t ht => (by rw [hq2] at ht; cases ht), fun h => (by rw [hq2] at h; cases h), .inl ⟨hq, .inl ⟨d, av, hd, hg, ih1, rfl, rfl⟩⟩⟩, rfl⟩, ?_⟩
    have e : over [d] (fun _ => av) σ = upd σ d av := by
      funext t
      by_cases e : t = d
      · subst e; rw [upd_same]; simp [over]
      · rw [upd_ne _ _ _ e]; simp [over, e]
    rw [e]; exact ih2
  | @drQuietN all anc quiet gen i l o σ σ2 av hi hq hq2 hd hg h k ih1 ih2 =>
    exact ⟨over [] (fun _ => av) σ, .inl ⟨o, [], fun _ => av, ⟨hi, fun t ht => by simp at ht, fun d' hd' => (by rw [hd] at hd'; cases hd'), fun t ht => (by rw [hq2] at ht; cases ht), fun h => (by rw [hq2] at h; cases h), .inl ⟨hq, .inr (.inl ⟨_, hd, hg, ih1, rfl⟩)⟩⟩, rfl⟩, ih2⟩
  | @drSkip all anc quiet gen i d l o σ σ2 hi hq hq2 hd hg h1 h2 k ih =>
    refine ⟨over [d] (fun _ => .tu []) σ, .inl ⟨o, [d], fun _ => .tu [], ⟨hi, fun t ht => by rw [hd, hq2]; simpa using ht, fun d' hd' => by rw [hd] at hd'; cases hd'; exact ⟨h1, h2, fun _ => rfl⟩, fun t ht => (by rw [hq2] at ht; cases ht), fun h => (by rw [hq2] at h; cases h), .inl ⟨hq, .inr (.inr ⟨d, hd, hg, rfl, rfl⟩)⟩⟩, rfl⟩, ?_⟩
    have e : over [d] (fun _ => AV.tu []) σ = upd σ d (.tu []) := by
      funext t
      by_cases e : t = d
      · subst e; rw [upd_same]; simp [over]
      · rw [upd_ne _ _ _ e]; simp [over, e]
    rw [e]; exact ih
  | @drGen all anc quiet gen i l T o σ τ' σ2 hi hq hT h hb hd ht hc k ih1 ih2 =>
    refine ⟨_, .inl ⟨o, o.dst.toList ++ T, τ', ⟨hi, fun t h => by rw [hT]; exact h, fun d hd' => ⟨(hd d hd').1, (hd d hd').2.1, fun _ => (hd d hd').2.2⟩, fun t h => (by rw [hT] at h; exact ⟨(ht t h).1, fun _ => (ht t h).2⟩), fun _ => hc, .inr ⟨hq, T, hT, ih1, rfl, hb⟩⟩, rfl⟩, ih2⟩
  | drMut hi hq hq2 h k ih1 ih2 => exact ⟨_, .inr ⟨_, hi, hq, hq2, ih1⟩, ih2⟩
  | skip σ => exact fun N w Sh Fs V a I hC _ Q hn => ⟨wp_skip (hn.here I hC), fun _ e => by cases e⟩
  | region h ih => exact fun N w Sh Fs V a I hC hk Q hn => ⟨wp_region_list (ih N w Sh Fs V a I hC (dok_all hk) Q hn), fun _ e => by cases e⟩
  | @regionD id ops anc quiet gen σ σ' ho h ih =>
    intro N w Sh Fs V a I hC hk Q hn
    refine ⟨wp_region_any hm ?_, fun _ e => by cases e⟩
    have hall : rest ops.size (Array.replicate ops.size false) = List.range ops.size := by
      unfold rest
      rw [List.filter_eq_self]
      intro i hi
      have := List.mem_range.1 hi
      simp [this]
    have hk' := dok_all hk
    have I' : Inv { w with drawn := w.drawn + 1 } Sh Fs V σ := I.frame (Keeps.drew w (w.drawn + 1)) (fun _ => Disj.no' _) (Disj.no _) (Le.refl _) I.shd I.sbd
    refine drawn_any ho (fun i o hio => List.all_eq_true.1 hk' o (Array.mem_toList_iff.2 (Array.mem_of_getElem? hio))) ops.size _ (by rw [hall]; simp) (by simp) (fun k hk => ?_) I' hC (by rw [hall]; exact ih) ?_
    · exfalso
      rw [Array.getD_eq_getD_getElem?] at hk
      by_cases hlt : k < ops.size
      · simp [hlt] at hk
      · simp [hlt] at hk
    · exact hn.trans rfl (fun _ _ => rfl) ⟨(Keeps.drew w (w.drawn + 1)).mono (Le.no _), Le.refl _, fun b o f => .inl f, fun b o f => .inl f⟩
  | seqN h k ih1 ih2 =>
    intro N w Sh Fs V a I hC hk Q hn
    simp only [codeOk, Bool.and_eq_true] at hk
    refine ⟨wp_seq (ih1 N w Sh Fs V a I hC hk.1 _ fun a' w' Sh' Fs' V' i1 i2 i3 i4 i5 => ?_).1, fun _ e => by cases e⟩
    exact (ih2 N w' Sh' Fs' V' a' i1 i2 hk.2 Q (hn.trans i3 i4 i5)).1
  | seqX h hx ih =>
    intro N w Sh Fs V a I hC hk Q hn
    simp only [codeOk, Bool.and_eq_true] at hk
    refine ⟨wp_seq (ih N w Sh Fs V a I hC hk.1 _ fun a' w' Sh' Fs' V' i1 i2 i3 i4 i5 => ?_).1, fun _ e => by cases e⟩
    rw [ex_then hx]
    exact hn a' w' Sh' Fs' V' i1 i2 i3 i4 i5
  | @cond c x y σ σ1 ex t hc h ih =>
    intro N w Sh Fs V a I hC hk Q hn
    simp only [codeOk, Bool.and_eq_true] at hk
    refine ⟨wp_cond (ov_int I hC.va hc) ?_, fun _ e => by cases e⟩
    cases t
    · exact (ih N w Sh Fs V a I hC hk.2 Q hn).1
    · exact (ih N w Sh Fs V a I hC hk.1 Q hn).1
  | block h ih =>
    intro N w Sh Fs V a I hC hk Q hn
    simp only [codeOk] at hk
    refine ⟨wp_block (ih N w Sh Fs V a I hC hk _ fun a' w' Sh' Fs' V' i1 i2 i3 i4 i5 => ?_).1, fun _ e => by cases e⟩
    rw [ex_inB]
    exact hn a' w' Sh' Fs' V' i1 i2 i3 i4 i5
  | loopN h k ih1 ih2 =>
    intro N w Sh Fs V a I hC hk Q hn
    simp only [codeOk] at hk
    have hL := LW_step (Q := Q) (ih1 N w Sh Fs V a I hC hk _ fun a' w' Sh' Fs' V' i1 i2 i3 i4 i5 =>
      (ih2 N w' Sh' Fs' V' a' i1 i2 (by simpa only [codeOk] using hk) Q (hn.trans i3 i4 i5)).2 _ rfl).1
    exact ⟨loop_of_LW hL, fun c' e => by cases e; exact hL⟩
  | loopX h hx ih =>
    intro N w Sh Fs V a I hC hk Q hn
    simp only [codeOk] at hk
    have hL := LW_step (Q := Q) (ih N w Sh Fs V a I hC hk _ fun a' w' Sh' Fs' V' i1 i2 i3 i4 i5 => by
      rw [ex_then hx]
      exact hn a' w' Sh' Fs' V' i1 i2 i3 i4 i5).1
    exact ⟨loop_of_LW hL, fun c' e => by cases e; exact hL⟩
  | exit id σ => exact fun N w Sh Fs V a I hC _ Q hn => ⟨wp_exit (hn.here I hC), fun _ e => by cases e⟩
  | ret σ => exact fun N w Sh Fs V a I hC _ Q hn => ⟨wp_ret (hn.here I hC), fun _ e => by cases e⟩
  | drop hd k ih => exact fun N w Sh Fs V a I hC hk Q hn => ih N w Sh Fs V a (I.drop hd) hC hk Q hn
  | dropP k hd ih => exact fun N w Sh Fs V a I hC hk Q hn => ih N w Sh Fs V a I hC hk Q fun a' w' Sh' Fs' V' i1 i2 i3 i4 i5 => hn a' w' Sh' Fs' V' (i1.drop hd) i2 i3 i4 i5
  | hard hn hx k ih =>
    intro N w Sh Fs V a I hC hk Q hnx
    obtain ⟨Sh', Fs', I', hE⟩ := I.hardS hn hx
    exact ih N w Sh' Fs' V a I' hC hk Q (hnx.trans rfl (fun _ _ => rfl) hE)
  | cast hn hx k ih =>
    intro N w Sh Fs V a I hC hk Q hnx
    obtain ⟨Fs', I', hE⟩ := I.castS hn hx
    exact ih N w Sh Fs' V a I' hC hk Q (hnx.trans rfl (fun _ _ => rfl) hE)
  | fn hF hc hnm hN hA hK h hx hr hT hf ih => exact s_fn hF hc hnm hN hA hK ih hx hr hT hf
  | fnDead h hd ih => exact s_fnDead ih hd
  | ext h => exact hX _ _ _ _ h
end
end Go.Eng
#print axioms Go.Eng.Ev.sound
