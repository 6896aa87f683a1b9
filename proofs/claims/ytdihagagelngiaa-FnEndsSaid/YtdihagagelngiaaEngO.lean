/- The engine, part O: drawn regions: whatever the order, it comes to the same. -/
import Derived.Test.YtdihagagelngiaaEngN
namespace Go.Eng
open Go
set_option linter.unusedVariables false
set_option linter.unusedSimpArgs false
section
variable {P : Program} {w w' : World} {Sh Sh' : Foot} {Fs : Nat → Foot} {V : Nat → Value} {σ : Nat → AV} {a : Act} {o : Oper} {N : Nat}

theorem goes_sound (I : Inv w Sh Fs V σ) (hC : Ctx N V a) {all : Array Oper} {b : Bool} (h : goes all σ o = some b) : Region.wanted o (yielded all a.tmps) = b := by
  unfold goes at h
  unfold Region.wanted
  cases hg : o.guard with
  | none => simp only [hg, Option.some.injEq] at h; exact h
  | some jw =>
    obtain ⟨j, want⟩ := jw
    simp only [hg] at h ⊢
    cases hd : dstOf all j with
    | none => simp [hd] at h
    | some d =>
      simp only [hd] at h
      cases hlt : Nat.blt d HB
      · simp [hlt] at h
      · simp only [hlt, cond_true] at h
        replace hlt : d < HB := Nat.blt_eq ▸ hlt
        split at h
        · rename_i b' hσ
          cases h
          have hr := I.rep d
          rw [hσ] at hr
          simp only [Rep] at hr
          have hv := hr.1
          rw [hC.va d hlt] at hv
          have hsome : a.tmps[d]? = some (.bool b') := by
            rw [Array.getD_eq_getD_getElem?] at hv
            cases hx : a.tmps[d]? with
            | none => rw [hx] at hv; simp [undef] at hv
            | some y => rw [hx] at hv; simp at hv; rw [hv]
          have hy : yielded all a.tmps j = some b' := by
            unfold yielded
            unfold dstOf at hd
            rw [hd]
            simp [hsome]
          rw [hy]
          simp
        · rename_i hσ
          cases h
          have hr := I.rep d
          rw [hσ] at hr
          simp only [Rep] at hr
          obtain ⟨xs, hv, -⟩ := hr
          rw [hC.va d hlt] at hv
          have hy : yielded all a.tmps j = none := by
            unfold yielded
            unfold dstOf at hd
            rw [hd]
            rw [Array.getD_eq_getD_getElem?] at hv
            cases hx : a.tmps[d]? with
            | none => simp [hx]
            | some y => rw [hx] at hv; simp at hv; subst hv; simp [hx]
          rw [hy]; rfl
        · cases h
theorem Nxt.trans {σ2 : Nat → AV} {Fs1 : Nat → Foot} {V1 : Nat → Value} {a1 : Act} {w1 : World} {Sh1 : Foot} {K : Act → World → Prop} (h : Nxt N w Sh Fs V a σ2 K) (hd : a1.defers = a.defers) (hV : ∀ t, HB ≤ t → V1 t = V t) (hE : Ext w Sh (T Fs) w1 Sh1 (T Fs1)) : Nxt N w1 Sh1 Fs1 V1 a1 σ2 K :=
  fun a' w' Sh' Fs' V' i1 i2 i3 i4 i5 => h a' w' Sh' Fs' V' i1 i2 (i3.trans hd) (fun t ht => (i4 t ht).trans (hV t ht)) (hE.trans i5)
theorem Nxt.here {K : Act → World → Prop} (h : Nxt N w Sh Fs V a σ K) (I : Inv w Sh Fs V σ) (hC : Ctx N V a) : K a w :=
  h a w Sh Fs V I hC rfl (fun _ _ => rfl) (Ext.refl _ _ _)
/-- An operation that is passed over. -/
theorem skip_put (I : Inv w Sh Fs V σ) (hC : Ctx N V a) (hd : dok N o = true) {K : Act → World → Prop} (hn : Nxt N w Sh Fs V a (putD σ o.dst .dead) K) : K (a.put o.dst undef) w := by
  obtain ⟨Fs', V', i1, i2, i3, i4⟩ := land (o := o) (av := .dead) (v := undef) (Sh' := Sh) (Fd := noF) I hC hd (F0 := noF) (Keeps.refl noF w) (fun _ => Disj.no' _) (Disj.no _) (Le.refl _) (fun b o f => .inl f) I.sbd (by simp only [Rep]) (fun _ _ f => f.elim) (Disj.no' _) (fun _ => Disj.no' _) (fun _ _ _ f => f.elim)
  refine hn _ _ _ _ _ i1 i2 (put_defers _ _ _) i3 ⟨i4.keeps.mono (Le.or (Le.refl _) (Le.no _)), i4.sh, fun b o f => ?_, fun b o f => ?_⟩
  · rcases i4.new b o f with g | (g | g) | g
    · exact .inl g
    · exact .inr (.inl g)
    · exact g.elim
    · exact .inr (.inr g)
  · rcases i4.own b o f with (g | g) | g
    · exact .inl g
    · exact g.elim
    · exact .inr g

theorem skip_putT (I : Inv w Sh Fs V σ) (hC : Ctx N V a) (hd : dok N o = true) {K : Act → World → Prop} (hn : Nxt N w Sh Fs V a (putD σ o.dst (.tu [])) K) : K (a.put o.dst undef) w := by
  obtain ⟨Fs', V', i1, i2, i3, i4⟩ := land (o := o) (av := .tu []) (v := undef) (Sh' := Sh) (Fd := noF) I hC hd (F0 := noF) (Keeps.refl noF w) (fun _ => Disj.no' _) (Disj.no _) (Le.refl _) (fun b o f => .inl f) I.sbd (by simp only [Rep]; exact ⟨#[], rfl, by simp [Reps]⟩) (fun _ _ f => f.elim) (Disj.no' _) (fun _ => Disj.no' _) (fun _ _ _ f => f.elim)
  refine hn _ _ _ _ _ i1 i2 (put_defers _ _ _) i3 ⟨i4.keeps.mono (Le.or (Le.refl _) (Le.no _)), i4.sh, fun b o f => ?_, fun b o f => ?_⟩
  · rcases i4.new b o f with g | (g | g) | g
    · exact .inl g
    · exact .inr (.inl g)
    · exact g.elim
    · exact .inr (.inr g)
  · rcases i4.own b o f with (g | g) | g
    · exact .inl g
    · exact g.elim
    · exact .inr g

/-! What hides. -/
mutual
theorem mask_le {bad bad' : Nat → List Nat → Bool} (h : ∀ r p, bad' r p = true → bad r p = true) : ∀ (a : AV), mask bad a = a → mask bad' a = a
  | .sc _, _ => rfl
  | .nl, _ => rfl
  | .im .., _ => rfl
  | .ow .., _ => rfl
  | .ip _, _ => rfl
  | .op _, _ => rfl
  | .dead, _ => rfl
  | .vw r p off n, e => by
    simp only [mask] at e ⊢
    cases hb : bad' r p
    · rfl
    · rw [h r p hb] at e; exact e
  | .ad r p i, e => by
    simp only [mask] at e ⊢
    cases hb : bad' r p
    · rfl
    · rw [h r p hb] at e; exact e
  | .ag cs, e => by
    simp only [mask, AV.ag.injEq] at e ⊢
    exact maskL_le h cs e
  | .tu cs, e => by
    simp only [mask, AV.tu.injEq] at e ⊢
    exact maskL_le h cs e
theorem maskL_le {bad bad' : Nat → List Nat → Bool} (h : ∀ r p, bad' r p = true → bad r p = true) : ∀ (cs : List AV), maskL bad cs = cs → maskL bad' cs = cs
  | [], _ => rfl
  | c :: cs, e => by
    simp only [maskL, List.cons.injEq] at e ⊢
    exact ⟨mask_le h c e.1, maskL_le h cs e.2⟩
end
mutual
theorem mask_noRf {bad : Nat → List Nat → Bool} : ∀ (a : AV), noRf a = true → mask bad a = a
  | .sc _, _ => rfl
  | .nl, _ => rfl
  | .im .., _ => rfl
  | .ow .., _ => rfl
  | .ip _, _ => rfl
  | .op _, _ => rfl
  | .dead, _ => rfl
  | .vw r p off n, e => by simp [noRf] at e
  | .ad r p i, e => by simp [noRf] at e
  | .ag cs, e => by
    simp only [noRf] at e
    simp only [mask, maskL_noRf cs e]
  | .tu cs, e => by
    simp only [noRf] at e
    simp only [mask, maskL_noRf cs e]
theorem maskL_noRf {bad : Nat → List Nat → Bool} : ∀ (cs : List AV), noRfL cs = true → maskL bad cs = cs
  | [], _ => rfl
  | c :: cs, e => by
    simp only [noRfL, Bool.and_eq_true] at e
    simp only [maskL, mask_noRf c e.1, maskL_noRf cs e.2]
end
theorem maskR_over {M W : List Nat} {ρ σ : Nat → AV} (h : ∀ t, W.contains t = true → M.contains t = true) : maskR M (over W ρ σ) = maskR M σ := by
  funext t
  unfold maskR over
  cases hm : M.contains t
  · cases hw : W.contains t
    · rfl
    · rw [h t hw] at hm; cases hm
  · rfl
section
variable {all : Array Oper} {anc : List (List Nat)} {quiet : List Nat} {gen : List (Nat × List Nat)}
theorem ordd_symm (i j : Nat) : ordd anc i j = ordd anc j i := by
  unfold ordd
  rw [Bool.or_comm ((anc.getD i []).contains j), show decide (j = i) = decide (i = j) by simp only [eq_comm]]
theorem mem_hides {i j d : Nat} (h : ordd anc i j = false) (hj : j < all.size) (hd : dstOf all j = some d) : (hides all anc i).contains d = true := by
  rw [List.contains_iff_mem]
  unfold hides
  rw [List.mem_filterMap]
  exact ⟨j, List.mem_range.2 hj, by rw [h]; exact hd⟩
theorem mem_hidesG {i j t : Nat} (h : ordd anc i j = false) (hj : j < all.size) (ht : ((dstOf all j).toList ++ (gTn gen j).getD []).contains t = true) : (hidesG all anc gen i).contains t = true := by
  rw [List.contains_iff_mem] at ht ⊢
  unfold hidesG
  rw [List.mem_flatMap]
  exact ⟨j, List.mem_range.2 hj, by rw [h]; exact ht⟩
theorem gmix_of {i j : Nat} (h : ordd anc i j = false) (hj : j < all.size) (hg : (gTn gen j).isSome = true) : gmix all anc gen i = true := by
  unfold gmix
  rw [List.any_eq_true]
  exact ⟨j, List.mem_range.2 hj, by rw [h, hg]; rfl⟩
theorem over_out {W : List Nat} {ρ σ : Nat → AV} {t : Nat} (h : W.contains t = false) : over W ρ σ t = σ t := by simp only [over, h, Bool.false_eq_true, if_false]
theorem over_in {W : List Nat} {ρ σ : Nat → AV} {t : Nat} (h : W.contains t = true) : over W ρ σ t = ρ t := by simp only [over, h, if_true]
theorem inL {A B : List Nat} {t : Nat} (h : (A ++ B).contains t = true) : A.contains t = true ∨ B.contains t = true := by
  simpa [List.contains_iff_mem] using h
theorem inD {d t : Option Nat} {x : Nat} (h : d.toList.contains x = true) : d = some x := by
  cases d with
  | none => simp at h
  | some y => simp at h; rw [h]
theorem Soft.swap {i j : Nat} {oi oj : Oper} {σ ρi ρj : Nat → AV} {Wi Wj : List Nat} (hij : ordd anc i j = false) (hap : ∀ t, (oi.dst.toList ++ (gTn gen i).getD []).contains t = true → (oj.dst.toList ++ (gTn gen j).getD []).contains t = true → False)
    (hj : Soft P all anc quiet gen j oj σ Wj ρj) (hi : Soft P all anc quiet gen i oi (over Wj ρj σ) Wi ρi) : Soft P all anc quiet gen i oi σ Wi ρi ∧ Soft P all anc quiet gen j oj (over Wi ρi σ) Wj ρj ∧ over Wj ρj (over Wi ρi σ) = over Wi ρi (over Wj ρj σ) := by
  have hji : ordd anc j i = false := by rw [ordd_symm]; exact hij
  have hjs : j < all.size := (Array.getElem?_eq_some_iff.1 hj.hi).1
  have his : i < all.size := (Array.getElem?_eq_some_iff.1 hi.hi).1
  have dj : dstOf all j = oj.dst := by simp [dstOf, hj.hi]
  have di : dstOf all i = oi.dst := by simp [dstOf, hi.hi]
  have sj : ∀ t, Wj.contains t = true → (hidesG all anc gen i).contains t = true := fun t ht => mem_hidesG hij hjs (by rw [dj]; exact hj.sub t ht)
  have si : ∀ t, Wi.contains t = true → (hidesG all anc gen j).contains t = true := fun t ht => mem_hidesG hji his (by rw [di]; exact hi.sub t ht)
  have out : ∀ t, (oi.dst.toList ++ (gTn gen i).getD []).contains t = true → Wj.contains t = false := fun t ht => by
    cases h : Wj.contains t
    · rfl
    · exact (hap t ht (hj.sub t h)).elim
  have outj : ∀ t, (oj.dst.toList ++ (gTn gen j).getD []).contains t = true → Wi.contains t = false := fun t ht => by
    cases h : Wi.contains t
    · rfl
    · exact (hap t (hi.sub t h) ht).elim
  have old : ∀ (bad : Nat → List Nat → Bool) t, Wj.contains t = true → mask bad (σ t) = σ t := fun bad t ht => by
    rcases inL (hj.sub t ht) with h | h
    · rw [(hj.hd t (inD (t := none) h)).1]; rfl
    · exact mask_noRf _ (hj.ht t (List.contains_iff_mem.1 h)).1
  have dmem : ∀ d, oi.dst = some d → (oi.dst.toList ++ (gTn gen i).getD []).contains d = true := fun d hd => by rw [hd]; simp
  have dmemj : ∀ d, oj.dst = some d → (oj.dst.toList ++ (gTn gen j).getD []).contains d = true := fun d hd => by rw [hd]; simp
  have tmem : ∀ t, t ∈ (gTn gen i).getD [] → (oi.dst.toList ++ (gTn gen i).getD []).contains t = true := fun t ht => by rw [List.contains_iff_mem]; exact List.mem_append_right _ ht
  have tmemj : ∀ t, t ∈ (gTn gen j).getD [] → (oj.dst.toList ++ (gTn gen j).getD []).contains t = true := fun t ht => by rw [List.contains_iff_mem]; exact List.mem_append_right _ ht
  have hSi : Soft P all anc quiet gen i oi σ Wi ρi := by
    refine ⟨hi.hi, hi.sub, fun d hd => ?_, fun t ht => ?_, fun hg t => ?_, ?_⟩
    · obtain ⟨g1, g2, g3⟩ := hi.hd d hd
      rw [over_out (out d (dmem d hd))] at g1
      refine ⟨g1, fun t => ?_, g3⟩
      cases ht : Wj.contains t
      · have := g2 t; rwa [over_out ht] at this
      · exact old _ t ht
    · obtain ⟨g1, g2⟩ := hi.ht t ht
      rw [over_out (out t (tmem t ht))] at g1
      exact ⟨g1, g2⟩
    · cases ht : Wj.contains t
      · have := hi.hc hg t; rwa [over_out ht] at this
      · exact ⟨fun _ => old _ t ht, fun _ => old _ t ht⟩
    · have := hi.core; rwa [maskR_over sj] at this
  refine ⟨hSi, ?_, ?_⟩
  · refine ⟨hj.hi, hj.sub, fun d hd => ?_, fun t ht => ?_, fun hg t => ?_, ?_⟩
    · obtain ⟨g1, g2, g3⟩ := hj.hd d hd
      refine ⟨by rw [over_out (outj d (dmemj d hd))]; exact g1, fun t => ?_, g3⟩
      cases ht : Wi.contains t
      · rw [over_out ht]; exact g2 t
      · rw [over_in ht]
        rcases inL (hi.sub t ht) with h | h
        · obtain ⟨-, -, k3⟩ := hi.hd t (inD (t := none) h)
          refine mask_le (fun r p hr => ?_) _ (k3 ht)
          have hr' : r = d := by simpa [isR] using hr
          subst hr'
          unfold badD
          rw [mem_hides hij hjs (dj.trans hd)]; simp
        · exact mask_noRf _ ((hi.ht t (List.contains_iff_mem.1 h)).2 ht)
    · obtain ⟨g1, g2⟩ := hj.ht t ht
      exact ⟨by rw [over_out (outj t (tmemj t ht))]; exact g1, g2⟩
    · cases ht : Wi.contains t
      · rw [over_out ht]; exact hj.hc hg t
      · rw [over_in ht]
        have key : mask (fun r p => oj.dst.toList.contains r || !p.isEmpty) (ρi t) = ρi t := by
          rcases inL (hi.sub t ht) with h | h
          · obtain ⟨-, -, k3⟩ := hi.hd t (inD (t := none) h)
            refine mask_le (fun r p hr => ?_) _ (k3 ht)
            unfold badD
            rw [gmix_of hij hjs hg]
            rcases Bool.or_eq_true _ _ ▸ hr with hr | hr
            · rw [mem_hides hij hjs (dj.trans (inD (t := none) hr))]; simp
            · rw [hr]; simp
          · exact mask_noRf _ ((hi.ht t (List.contains_iff_mem.1 h)).2 ht)
        refine ⟨fun _ => mask_le (fun r p hr => ?_) _ key, fun h => ?_⟩
        · unfold badC at hr
          rcases Bool.or_eq_true _ _ ▸ hr with hr | hr
          · simp only [hr, Bool.true_or]
          · rw [Bool.and_eq_true] at hr; simp only [hr.2, Bool.or_true]
        · rw [si t ht] at h; cases h
    · rw [maskR_over si]; exact hj.core
  · funext t
    unfold over
    cases h1 : Wi.contains t
    · simp
    · rw [out t (hi.sub t h1)]; simp
theorem SDr.front {i : Nat} {l2 : List Nat} {σ' : Nat → AV} (hq : quiet.contains i = true ∨ (gTn gen i).isSome = true) : ∀ (l1 : List Nat) {σ : Nat → AV}, (∀ j ∈ l1, (quiet.contains j = true ∨ (gTn gen j).isSome = true) ∧ ordd anc i j = false ∧ ∀ t, ((dstOf all i).toList ++ (gTn gen i).getD []).contains t = true → ((dstOf all j).toList ++ (gTn gen j).getD []).contains t = true → False) → SDr P all anc quiet gen (l1 ++ i :: l2) σ σ' → ∃ σ1, DStep P all anc quiet gen i σ σ1 ∧ SDr P all anc quiet gen (l1 ++ l2) σ1 σ'
  | [], σ, _, h => h
  | j :: l1, σ, hj, h => by
    obtain ⟨σa, s1, h⟩ := h
    obtain ⟨σb, s2, h⟩ := SDr.front hq l1 (fun k hk => hj k (List.mem_cons_of_mem _ hk)) h
    obtain ⟨q1, q2, q3⟩ := hj j (by simp)
    rcases s1 with ⟨oj, Wj, ρj, hqj, rfl⟩ | ⟨o, e1, e2, e3, -⟩
    · rcases s2 with ⟨oi, Wi, ρi, hqi, rfl⟩ | ⟨o, e1, e2, e3, -⟩
      · have dj : dstOf all j = oj.dst := by simp [dstOf, hqj.hi]
        have di : dstOf all i = oi.dst := by simp [dstOf, hqi.hi]
        rw [dj, di] at q3
        obtain ⟨r1, r2, r3⟩ := Soft.swap q2 q3 hqj hqi
        rw [← r3] at h
        exact ⟨_, .inl ⟨oi, Wi, ρi, r1, rfl⟩, ⟨_, .inl ⟨oj, Wj, ρj, r2, rfl⟩, h⟩⟩
      · rcases hq with hq | hq
        · rw [hq] at e2; cases e2
        · rw [e3] at hq; cases hq
    · rcases q1 with q1 | q1
      · rw [q1] at e2; cases e2
      · rw [e3] at q1; cases q1

theorem drop_mask (M : List Nat) (σ : Nat → AV) : ∀ t, maskR M σ t = .dead ∨ maskR M σ t = σ t := by
  intro t; unfold maskR; split
  · exact .inl rfl
  · exact .inr rfl
theorem KS.top {w' : World} {V' : Nat → Value} {σ' : Nat → AV} {r : Nat} (hV : V' r = V r) {v : Value} : (∀ off n, KS w V σ v (.vw r [] off n) → KS w' V' σ' v (.vw r [] off n)) ∧ (∀ i, KS w V σ v (.ad r [] i) → KS w' V' σ' v (.ad r [] i)) := by
  refine ⟨fun off n hk h x hx => ?_, fun i hk h x hx => ?_⟩
  · have e := hx.nil_eq rfl
    rw [e, hV]; exact hk _ _ (.nil _ _)
  · have e := hx.nil_eq rfl
    rw [e, hV]; exact hk _ _ (.nil _ _)
theorem wp_put {next next' : Act → World → Prop} {Q Q' : Exit → Act → World → Prop} (h : ∀ a' w', (∃ v, a'.tmps = (a.put o.dst v).tmps) → next a' w' → next' a' w') (hQ : ∀ c a w, Q (.panic c) a w → Q' (.panic c) a w) (hL : LetsOut Q → LetsOut Q') (hh : o.wp P a w next Q) : o.wp P a w next' Q' := by
  unfold Oper.wp at *
  generalize (execOp a.eval o).run P w = r at *
  cases r with
  | ok n w' =>
    cases n <;> simp only [Oper.upon] at hh ⊢ <;>
      first
        | exact h _ _ ⟨_, rfl⟩ hh
        | exact h _ _ ⟨undef, by cases o.dst <;> rfl⟩ hh
        | exact Calls.mono hh (fun e w'' he => by cases e <;> first | exact h _ _ ⟨_, rfl⟩ he | exact hQ _ _ _ he | exact hL he)
        | exact Rows.mono hh (fun _ _ he => h _ _ ⟨_, rfl⟩ he)
  | halt x w' => cases x <;> simp only [Oper.upon] at hh ⊢ <;> first | exact hQ _ _ _ hh | exact hh
theorem Inv.thin {Fs' : Nat → Foot} (I : Inv w Sh Fs V σ) (h : ∀ t, Fs' t = Fs t ∨ (Fs' t = noF ∧ σ t = .dead)) : Inv w Sh Fs' V σ := by
  have hle : ∀ t, Le (Fs' t) (Fs t) := fun t => by
    rcases h t with e | ⟨e, -⟩
    · rw [e]; exact Le.refl _
    · rw [e]; exact Le.no _
  refine ⟨fun t => ?_, fun s t hst => (I.dis s t hst).le (hle s) (hle t), fun t => (I.shd t).le (hle t) (Le.refl _), fun t b o f => I.bnd t b o (hle t b o f), I.sbd⟩
  rcases h t with e | ⟨-, e⟩
  · rw [e]; exact I.rep t
  · rw [e]; simp only [Rep]
/-- One operation of a region, with what it comes to. -/
theorem SOps.one {ρ : Nat → AV} {Q : Exit → Act → World → Prop} {K : Act → World → Prop} (h : SOps P all [o] σ ρ) (I : Inv w Sh Fs V σ) (hC : Ctx N V a) (hd : dok N o = true) (main : ∀ a' w', (∃ v, a'.tmps = (a.put o.dst v).tmps) → (∃ Sh' Fs' V', Inv w' Sh' Fs' V' ρ ∧ Ctx N V' a' ∧ a'.defers = a.defers ∧ (∀ t, HB ≤ t → V' t = V t) ∧ Ext w Sh (Eng.T Fs) w' Sh' (Eng.T Fs')) → K a' w') :
    if Region.wanted o (yielded all a.tmps) then o.wp P a w K Q ∨ (o.asks P a w ∧ LetsOut Q) else K (a.put o.dst undef) w := by
  have hdk : [o].all (dok N) = true := by simp only [List.all_cons, hd, List.all_nil, Bool.and_self]
  let Q' : Exit → Act → World → Prop := fun e a' w' => match e with
    | .normal => ∃ Sh' Fs' V', Inv w' Sh' Fs' V' ρ ∧ Ctx N V' a' ∧ a'.defers = a.defers ∧ (∀ t, HB ≤ t → V' t = V t) ∧ Ext w Sh (Eng.T Fs) w' Sh' (Eng.T Fs')
    | e => Q e a' w'
  have hw := h N w Sh Fs V a I hC hdk Q' (fun a' w' Sh' Fs' V' i1 i2 i3 i4 i5 => ⟨Sh', Fs', V', i1, i2, i3, i4, i5⟩)
  unfold wpList at hw
  cases hwant : Region.wanted o (yielded all a.tmps)
  · rw [hwant] at hw
    simp only [Bool.false_eq_true, if_false] at hw ⊢
    exact main _ _ ⟨undef, rfl⟩ hw
  · rw [hwant] at hw
    simp only [if_true] at hw ⊢
    rcases hw with hw | ⟨hw1, hw2⟩
    · exact .inl (wp_put (fun a' w' hp hk => main a' w' hp hk) (fun c a w h => h) (fun h => h) hw)
    · exact .inr ⟨hw1, hw2⟩
theorem DStep.wp {Q : Exit → Act → World → Prop} {i : Nat} {σ1 : Nat → AV} (h : DStep P all anc quiet gen i σ σ1) (hap : ∀ o, all[i]? = some o → ∀ t, (o.dst.toList ++ (gTn gen i).getD []).contains t = true → (hidesG all anc gen i).contains t = false) (I : Inv w Sh Fs V σ) (hC : Ctx N V a) (hd : ∀ o, all[i]? = some o → dok N o = true) {K : Act → World → Prop} (hn : Nxt N w Sh Fs V a σ1 K) : wpOp P all Q i K a w := by
  rcases h with ⟨o, W, ρ, hS, rfl⟩ | ⟨o, h1, h2, h2', h3⟩
  · have h1 := hS.hi
    have hap := hap o h1
    have Im : Inv w Sh Fs V (maskR (hidesG all anc gen i) σ) := I.drop (drop_mask _ _)
    unfold wpOp
    rw [h1]
    simp only
    rcases hS.core with ⟨hq, hQ⟩ | ⟨hq, T, hT, hG, hW, hb⟩
    · rcases hQ with ⟨d, av, g1, g2, g3, rfl, g4⟩ | ⟨av, g1, g2, g3, rfl⟩ | ⟨d, g1, g2, rfl, g4⟩
      · rw [goes_sound Im hC g2]
        simp only [if_true]
        refine .inl (g3 N w Sh Fs V a Im hC _ _ fun v w' Sh' Fd k hSS hnew hb hr hf hds => ?_)
        obtain ⟨hdead, hfree, hbad⟩ := hS.hd d g1
        replace hbad := hbad (by simp)
        rw [g4] at hbad
        have hr' : Rep w' Sh' (KS w V σ) av Fd v := by
          have hk1 : ∀ r p, badD d (hides all anc i) (hidesG all anc gen i) (gmix all anc gen i) r p = false → maskR (hidesG all anc gen i) σ r = σ r ∨ p = [] := by
            intro r p hb
            unfold badD at hb
            simp only [Bool.or_eq_false_iff, Bool.and_eq_false_iff, Bool.not_eq_false', List.isEmpty_iff] at hb
            rcases hb.2.2 with h | h
            · left; unfold maskR; rw [h.1]; rfl
            · exact .inr h
          have := Rep.mask (K' := KS w V σ) (badD d (hides all anc i) (hidesG all anc gen i) (gmix all anc gen i)) (fun v r p off n hk hb => by
            rcases hk1 r p hb with h | rfl
            · intro h' x hx
              exact hk h' x (by rw [h]; exact hx)
            · exact (KS.top rfl).1 off n hk) (fun v r p j hk hb => by
            rcases hk1 r p hb with h | rfl
            · intro h' x hx
              exact hk h' x (by rw [h]; exact hx)
            · exact (KS.top rfl).2 j hk) av hr
          rwa [hbad] at this
        obtain ⟨Fs', V', i1, i2, i3, i4⟩ := land I hC (hd o h1) (F0 := noF) k (fun _ => Disj.no' _) (Disj.no _) hSS (fun b o f => (hnew b o f).elim .inl (fun h => .inr (.inr h))) hb hr' (fun b o f => ⟨.inr (hf b o f).1, (hf b o f).2⟩) hds (fun _ => Disj.no' _) (fun _ _ _ f => f.elim)
        have hput : putD σ o.dst av = over [d] ρ σ := by
          rw [g1]
          funext t
          simp only [putD, put, over]
          by_cases e : t = d
          · subst e
            rw [upd_same]
            simp only [List.contains_cons, beq_self_eq_true, Bool.true_or, if_true, g4]
            exact mask_le (fun r p hr => by simp only [isR] at hr; simp only [badD, hr, Bool.true_or]) av hbad
          · rw [upd_ne _ _ _ e]
            have : ([d] : List Nat).contains t = false := by simp [e]
            rw [this]
            exact hfree t
        rw [hput] at i1
        refine hn _ _ _ _ _ i1 i2 (put_defers _ _ _) i3 ⟨i4.keeps.mono (Le.or (Le.refl _) (Le.no _)), i4.sh, fun b o f => ?_, fun b o f => ?_⟩
        · rcases i4.new b o f with g | (g | g) | g
          · exact .inl g
          · exact .inr (.inl g)
          · exact g.elim
          · exact .inr (.inr g)
        · rcases i4.own b o f with (g | g) | g
          · exact .inl g
          · exact g.elim
          · exact .inr g
      · rw [goes_sound Im hC g2]
        simp only [if_true]
        refine .inl (g3 N w Sh Fs V a Im hC _ _ fun v w' Sh' Fd k hSS hnew hb hr hf hds => ?_)
        rw [g1]
        have hs' : ∀ t, Disj (Fs t) Sh' := fun t b o f g => by
          rcases hnew b o g with g | g
          · exact I.shd t b o f g
          · exact absurd (I.bnd t b o f) (by omega)
        exact hn a w' Sh' Fs V (I.frame k (fun _ => Disj.no' _) (Disj.no _) hSS hs' hb) hC rfl (fun _ _ => rfl) ⟨k.mono (Le.no _), hSS, fun b o f => (hnew b o f).elim .inl (fun h => .inr (.inr h)), fun b o f => .inl f⟩
      · rw [goes_sound Im hC g2]
        simp only [Bool.false_eq_true, if_false]
        obtain ⟨hdead, hfree, -⟩ := hS.hd d g1
        have hput : putD σ o.dst (.tu []) = over [d] ρ σ := by
          rw [g1]
          funext t
          simp only [putD, put, over]
          by_cases e : t = d
          · subst e; rw [upd_same]
            simp only [List.contains_cons, beq_self_eq_true, Bool.true_or, if_true, g4]
            rfl
          · rw [upd_ne _ _ _ e]
            have : ([d] : List Nat).contains t = false := by simp [e]
            rw [this]
            exact hfree t
        exact skip_putT I hC (hd o h1) (by rw [hput]; exact hn)
    · -- one that turns something: what is hidden is framed
      subst hW
      have hsome : (gTn gen i).isSome = true := by rw [hT]; rfl
      have hTD : (gTn gen i).getD [] = T := by rw [hT]; rfl
      rw [hTD] at hap
      obtain ⟨H, hH⟩ : ∃ H, H = hidesG all anc gen i := ⟨_, rfl⟩
      have hc := hS.hc hsome
      have hdd := hS.hd
      have htt := hS.ht
      rw [hTD] at htt
      rw [← hH] at hap hG hb Im hc hdd
      let Fsm : Nat → Foot := fun t => if H.contains t then noF else Fs t
      have Im' : Inv w Sh Fsm V (maskR H σ) := Im.thin fun t => by
        show (if H.contains t then noF else Fs t) = Fs t ∨ _
        cases hm : H.contains t
        · exact .inl rfl
        · refine .inr ⟨?_, by unfold maskR; rw [hm]; rfl⟩
          show (if H.contains t then noF else Fs t) = noF
          rw [hm]; rfl
      have hFle : Le (Eng.T Fsm) (Eng.T Fs) := fun b o ⟨t, f⟩ => by
        simp only [Fsm] at f
        split at f
        · exact f.elim
        · exact ⟨t, f⟩
      have hFd : ∀ t, H.contains t = true → Disj (Eng.T Fsm) (Fs t) := fun t ht b o ⟨s, f⟩ g => by
        simp only [Fsm] at f
        split at f
        · exact f.elim
        · rename_i hs
          exact I.dis s t (by rintro rfl; exact hs ht) b o f g
      have main : ∀ a' w', (∃ v, a'.tmps = (a.put o.dst v).tmps) → (∃ Sh' Fs' V', Inv w' Sh' Fs' V' ρ ∧ Ctx N V' a' ∧ a'.defers = a.defers ∧ (∀ t, HB ≤ t → V' t = V t) ∧ Ext w Sh (Eng.T Fsm) w' Sh' (Eng.T Fs')) → K a' w' := by
        rintro a' w' ⟨v, hput⟩ ⟨Sh', Fs', V', i1, i2, i3, i4, i5⟩
        have hV : ∀ t, o.dst.toList.contains t = false → V' t = V t := by
          intro t ht
          by_cases hb : HB ≤ t
          · exact i4 t hb
          · rw [i2.va t (by omega), hC.va t (by omega), hput]
            cases h2 : o.dst with
            | none => rfl
            | some d =>
              have hne : d ≠ t := by rintro rfl; rw [h2] at ht; simp at ht
              simp [Act.put, Array.getElem?_setIfInBounds, hne]
        let Fs2 : Nat → Foot := fun t => if H.contains t then Fs t else Fs' t
        have f2 : ∀ t, H.contains t = true → Fs2 t = Fs t := fun t ht => by simp only [Fs2, ht, if_true]
        have f3 : ∀ t, H.contains t = false → Fs2 t = Fs' t := fun t ht => by simp only [Fs2, ht, Bool.false_eq_true, if_false]
        have o2 : ∀ t, H.contains t = true → over (o.dst.toList ++ T) ρ σ t = σ t := fun t ht => over_out (by
          cases h : (o.dst.toList ++ T).contains t
          · rfl
          · rw [hap t h] at ht; cases ht)
        have o3 : ∀ t, H.contains t = false → over (o.dst.toList ++ T) ρ σ t = ρ t := fun t ht => by
          cases h : (o.dst.toList ++ T).contains t
          · rw [over_out h, hb t h]; unfold maskR; rw [ht]; rfl
          · exact over_in h
        have hE : ∀ t, H.contains t = false → mask (badE H) (ρ t) = ρ t := fun t ht => by
          cases h : (o.dst.toList ++ T).contains t
          · rw [hb t h]; unfold maskR; rw [ht]
            exact (hc t).2 ht
          · rcases inL h with h' | h'
            · refine mask_le (fun r p hr => ?_) _ ((hdd t (inD (t := none) h')).2.2 h)
              unfold badE at hr
              rw [Bool.and_eq_true] at hr
              unfold badD
              rw [hr.1, hr.2]; simp
            · exact mask_noRf _ ((htt t (List.contains_iff_mem.1 h')).2 h)
        have hhid : ∀ t, H.contains t = true → o.dst.toList.contains t = false := fun t ht => by
          cases h : o.dst.toList.contains t
          · rfl
          · have : (o.dst.toList ++ T).contains t = true := by
              rw [List.contains_iff_mem] at h ⊢; exact List.mem_append_left _ h
            rw [hap t this] at ht; cases ht
        have hS' : ∀ b x, Sh' b x → Sh b x ∨ (Eng.T Fsm) b x ∨ w.heap.size ≤ b := i5.new
        have I2 : Inv w' Sh' Fs2 V' (over (o.dst.toList ++ T) ρ σ) := by
          refine ⟨fun t => ?_, fun s t hst => ?_, fun t => ?_, fun t b x f => ?_, i1.sbd⟩
          · cases ht : H.contains t
            · rw [f3 t ht, o3 t ht]
              have hk1 : ∀ r p, badE H r p = false → H.contains r = false ∨ p = [] := by
                intro r p hb
                unfold badE at hb
                simp only [Bool.and_eq_false_iff, Bool.not_eq_false', List.isEmpty_iff] at hb
                exact hb
              have := Rep.mask (K' := KS w' V' (over (o.dst.toList ++ T) ρ σ)) (badE H) (fun v r p off n hk hb => by
                rcases hk1 r p hb with h | rfl
                · intro h' x hx
                  exact hk h' x (by rw [← o3 r h]; exact hx)
                · exact (KS.top rfl).1 off n hk) (fun v r p j hk hb => by
                rcases hk1 r p hb with h | rfl
                · intro h' x hx
                  exact hk h' x (by rw [← o3 r h]; exact hx)
                · exact (KS.top rfl).2 j hk) (ρ t) (i1.rep t)
              rwa [hE t ht] at this
            · rw [f2 t ht, o2 t ht, hV t (hhid t ht)]
              have hfr : Rep w' Sh' (KS w V σ) (σ t) (Fs t) (V t) := Rep.frame i5.keeps (fun b x s ⟨u, f⟩ => Im'.shd u b x f s) i5.sh (σ t) (fun _ _ h => h) (hFd t ht) (Le.refl _) (I.rep t)
              have hk1 : ∀ r p, badC o.dst.toList H r p = false → o.dst.toList.contains r = false ∧ (H.contains r = true ∨ p = []) := by
                intro r p hb
                unfold badC at hb
                simp only [Bool.or_eq_false_iff, Bool.and_eq_false_iff, Bool.not_eq_false', List.isEmpty_iff] at hb
                exact hb
              have hback : ∀ r, H.contains r = true → ∀ p h x, At w' (V' r) (over (o.dst.toList ++ T) ρ σ r) p h x → At w (V r) (σ r) p h x := fun r hr p h x hx => by
                rw [o2 r hr, hV r (hhid r hr)] at hx
                exact hx.frame i5.keeps (I.rep r) (hFd r hr)
              have := Rep.mask (K' := KS w' V' (over (o.dst.toList ++ T) ρ σ)) (badC o.dst.toList H) (fun v r p off n hk hb => by
                obtain ⟨h1, h2⟩ := hk1 r p hb
                rcases h2 with h | rfl
                · intro h' x hx
                  exact hk h' x (hback r h p h' x hx)
                · exact (KS.top (hV r h1)).1 off n hk) (fun v r p j hk hb => by
                obtain ⟨h1, h2⟩ := hk1 r p hb
                rcases h2 with h | rfl
                · intro h' x hx
                  exact hk h' x (hback r h p h' x hx)
                · exact (KS.top (hV r h1)).2 j hk) (σ t) hfr
              rwa [(hc t).1 ht] at this
          · have cross : ∀ s t, H.contains s = true → H.contains t = false → Disj (Fs s) (Fs' t) := fun s t hs ht b x f g => by
              rcases i5.own b x ⟨t, g⟩ with g | g
              · exact hFd s hs b x g f
              · exact absurd (I.bnd s b x f) (by omega)
            cases hs : H.contains s <;> cases ht : H.contains t
            · rw [f3 s hs, f3 t ht]; exact i1.dis s t hst
            · rw [f3 s hs, f2 t ht]; exact (cross t s ht hs).symm
            · rw [f2 s hs, f3 t ht]; exact cross s t hs ht
            · rw [f2 s hs, f2 t ht]; exact I.dis s t hst
          · cases ht : H.contains t
            · rw [f3 t ht]; exact i1.shd t
            · rw [f2 t ht]
              intro b x f g
              rcases hS' b x g with g | g | g
              · exact I.shd t b x f g
              · exact hFd t ht b x g f
              · exact absurd (I.bnd t b x f) (by omega)
          · cases ht : H.contains t
            · rw [f3 t ht] at f; exact i1.bnd t b x f
            · rw [f2 t ht] at f; exact Nat.lt_of_lt_of_le (I.bnd t b x f) i5.keeps.size
        refine hn a' w' Sh' Fs2 V' I2 i2 i3 i4 ⟨i5.keeps.mono hFle, i5.sh, fun b x f => ?_, fun b x ⟨t, f⟩ => ?_⟩
        · rcases hS' b x f with g | g | g
          · exact .inl g
          · exact .inr (.inl (hFle b x g))
          · exact .inr (.inr g)
        · cases ht : H.contains t
          · rw [f3 t ht] at f
            exact (i5.own b x ⟨t, f⟩).imp (hFle b x) id
          · rw [f2 t ht] at f; exact .inl ⟨t, f⟩
      exact hG.one Im' hC (hd o h1) main
  · unfold wpOp
    rw [h1]
    exact h3.one I hC (hd o h1) fun a' w' _ ⟨Sh', Fs', V', i1, i2, i3, i4, i5⟩ => hn a' w' Sh' Fs' V' i1 i2 i3 i4 i5

/-- What is not yet listed, in the text's order. -/
def rest (n : Nat) (listed : Array Bool) : List Nat := (List.range n).filter fun i => !listed.getD i true
theorem rest_split {n i : Nat} {listed : Array Bool} (hi : i ∈ rest n listed) : ∃ l1 l2, rest n listed = l1 ++ i :: l2 ∧ (∀ j ∈ l1, j < i) ∧ rest n (listed.setIfInBounds i true) = l1 ++ l2 := by
  have hmem := List.mem_filter.1 hi
  have hlt : i < n := List.mem_range.1 hmem.1
  have hl : listed.getD i true = false := by simpa using hmem.2
  have hsz : i < listed.size := by
    rcases Nat.lt_or_ge i listed.size with h | h
    · exact h
    · rw [Array.getD_eq_getD_getElem?, Array.getElem?_eq_none h] at hl; simp at hl
  have hr : List.range n = List.range i ++ i :: (List.range' (i + 1) (n - i - 1)) := by
    rw [List.range_eq_range', List.range_eq_range']
    have : n = i + (1 + (n - i - 1)) := by omega
    conv => lhs; rw [this]
    rw [← List.range'_append_1, Nat.zero_add, ← List.range'_append_1]
    rfl
  refine ⟨(List.range i).filter fun k => !listed.getD k true, (List.range' (i + 1) (n - i - 1)).filter fun k => !listed.getD k true, ?_, fun j hj => List.mem_range.1 (List.mem_filter.1 hj).1, ?_⟩
  · unfold rest
    rw [hr, List.filter_append, List.filter_cons_of_pos (by simp [hl])]
  · unfold rest
    rw [hr, List.filter_append, List.filter_cons_of_neg (by simp [hsz])]
    congr 1
    · refine List.filter_congr fun k hk => ?_
      have : i ≠ k := by have := List.mem_range.1 hk; omega
      rw [getD_set_ne true this]
    · refine List.filter_congr fun k hk => ?_
      have : i ≠ k := by have := List.mem_range'_1.1 hk; omega
      rw [getD_set_ne true this]
theorem drawn_any (hok : drawOk all anc quiet gen = true) (hdk : ∀ (i : Nat) (o : Oper), all[i]? = some o → dok N o = true) {Q : Exit → Act → World → Prop} {σ' : Nat → AV} : ∀ (fuel : Nat) (listed : Array Bool) {σ : Nat → AV} {w : World} {Sh : Foot} {Fs : Nat → Foot} {V : Nat → Value} {a : Act}, (rest all.size listed).length ≤ fuel → listed.size = all.size → (∀ k, listed.getD k false = true → ∀ j ∈ anc.getD k [], listed.getD j false = true) →
    Inv w Sh Fs V σ → Ctx N V a → SDr P all anc quiet gen (rest all.size listed) σ σ' → Nxt N w Sh Fs V a σ' (Q .normal) → wpAny P .any all Q fuel listed a w := by
  have hchk : ∀ i, i < all.size → ∀ o, all[i]? = some o → (∀ e ∈ o.after.toList, Region.binds .any e = true → e.on < i) ∧ (∀ j ∈ anc.getD i [], j < i ∧ ∃ e ∈ o.after.toList, Region.binds .any e = true ∧ (e.on = j ∨ j ∈ anc.getD e.on [])) ∧
      (∀ j, j < i → (anc.getD i []).contains j = true ∨ ((quiet.contains i = true ∨ (gTn gen i).isSome = true) ∧ (quiet.contains j = true ∨ (gTn gen j).isSome = true) ∧ ∀ t, ((dstOf all i).toList ++ (gTn gen i).getD []).contains t = true → ((dstOf all j).toList ++ (gTn gen j).getD []).contains t = true → False)) := by
    intro i hi o ho
    have := List.all_eq_true.1 hok i (List.mem_range.2 hi)
    simp only [ho, Option.map_some, Option.getD_some, Bool.and_eq_true, List.all_eq_true, List.any_eq_true, Bool.or_eq_true, Bool.not_eq_true', decide_eq_true_eq, List.mem_range, beq_iff_eq] at this
    obtain ⟨⟨t1, t2⟩, t3⟩ := this
    refine ⟨fun e he hb => (t1 e he).resolve_left (by rw [hb]; simp), fun j hj => ?_, fun j hj => ?_⟩
    · obtain ⟨u1, e, u2, u3, u4⟩ := t2 j hj
      exact ⟨u1, e, u2, u3, u4.imp id (fun h => List.contains_iff_mem.1 h)⟩
    · rcases t3 j hj with h | ⟨⟨h1, h2⟩, h3⟩
      · exact .inl h
      · refine .inr ⟨h1, h2, fun t ht ht' => ?_⟩
        have := List.all_eq_true.1 h3 t (List.contains_iff_mem.1 ht)
        rw [ht'] at this; cases this
  have hap : ∀ i o, all[i]? = some o → ∀ t, (o.dst.toList ++ (gTn gen i).getD []).contains t = true → (hidesG all anc gen i).contains t = false := by
    intro i o ho t ht
    cases hh : (hidesG all anc gen i).contains t
    · rfl
    · exfalso
      have hi : i < all.size := (Array.getElem?_eq_some_iff.1 ho).1
      have di : dstOf all i = o.dst := by simp [dstOf, ho]
      rw [← di] at ht
      rw [List.contains_iff_mem] at hh
      unfold hidesG at hh
      rw [List.mem_flatMap] at hh
      obtain ⟨j, hj, hm⟩ := hh
      have hj := List.mem_range.1 hj
      obtain ⟨oj, hoj⟩ : ∃ oj, all[j]? = some oj := ⟨_, Array.getElem?_eq_getElem hj⟩
      cases hor : ordd anc i j
      · rw [hor] at hm
        simp only [Bool.false_eq_true, if_false] at hm
        have hne : j ≠ i ∧ (anc.getD i []).contains j = false ∧ (anc.getD j []).contains i = false := by
          unfold ordd at hor
          simp only [Bool.or_eq_false_iff, decide_eq_false_iff_not] at hor
          exact hor
        rcases Nat.lt_or_gt_of_ne hne.1 with h | h
        · rcases (hchk i hi o ho).2.2 j h with h' | ⟨-, -, h'⟩
          · rw [hne.2.1] at h'; cases h'
          · exact h' t ht (List.contains_iff_mem.2 hm)
        · rcases (hchk j hj oj hoj).2.2 i h with h' | ⟨-, -, h'⟩
          · rw [hne.2.2] at h'; cases h'
          · exact h' t (List.contains_iff_mem.2 hm) ht
      · rw [hor] at hm; simp at hm
  intro fuel
  induction fuel with
  | zero =>
    intro listed σ w Sh Fs V a hlen hsz hinv I hC hs hn
    have hr : rest all.size listed = [] := List.eq_nil_of_length_eq_zero (by omega)
    rw [hr] at hs
    simp only [SDr] at hs
    subst hs
    refine ⟨?_, hn.here I hC⟩
    rw [List.eq_nil_iff_forall_not_mem]
    intro i hi
    have := (mem_ready.1 hi)
    obtain ⟨h0, o, ho, -⟩ := this
    have hmem : i ∈ rest all.size listed := List.mem_filter.2 ⟨List.mem_range.2 (Array.getElem?_eq_some_iff.1 ho).1, by simp only [h0, Bool.not_false]⟩
    rw [hr] at hmem; cases hmem
  | succ fuel ih =>
    intro listed σ w Sh Fs V a hlen hsz hinv I hC hs hn
    refine ⟨fun hre => ?_, fun i hi => ?_⟩
    · cases hr : rest all.size listed with
      | nil =>
        rw [hr] at hs
        simp only [SDr] at hs
        subst hs
        exact hn.here I hC
      | cons i l =>
        exfalso
        have hi : i ∈ rest all.size listed := by rw [hr]; simp
        have hm := List.mem_filter.1 hi
        have hlt := List.mem_range.1 hm.1
        have h0 : listed.getD i true = false := by simpa using hm.2
        obtain ⟨o, ho⟩ : ∃ o, all[i]? = some o := ⟨_, Array.getElem?_eq_getElem hlt⟩
        have : i ∈ Region.ready .any all listed := by
          rw [mem_ready]
          refine ⟨h0, o, ho, fun e he hb => ?_⟩
          have hon := (hchk i hlt o ho).1 e (Array.mem_toList_iff.2 he) hb
          obtain ⟨l1, l2, q1, q2, -⟩ := rest_split hi
          have hl1 : l1 = [] := by
            cases l1 with
            | nil => rfl
            | cons x xs =>
              rw [hr] at q1
              simp only [List.cons_append, List.cons.injEq] at q1
              have := q2 x (by simp)
              omega
          rcases hx : listed.getD e.on true with _ | _
          · exfalso
            have hmem : e.on ∈ rest all.size listed := List.mem_filter.2 ⟨List.mem_range.2 (by omega), by simp only [hx, Bool.not_false]⟩
            rw [q1, hl1, List.nil_append] at hmem
            have hsub : ∀ j ∈ l2, i < j := by
              intro j hj
              have hpw : (rest all.size listed).Pairwise (· < ·) := List.Pairwise.filter _ List.pairwise_lt_range
              rw [q1, hl1, List.nil_append, List.pairwise_cons] at hpw
              exact hpw.1 j hj
            rcases List.mem_cons.1 hmem with h | h
            · omega
            · have := hsub _ h; omega
          · have hb2 : e.on < listed.size := by omega
            rw [Array.getD_eq_getD_getElem?, Array.getElem?_eq_getElem hb2] at hx ⊢
            simpa using hx
        rw [hre] at this; cases this
    · have hready := mem_ready.1 hi
      obtain ⟨h0, o, ho, haft⟩ := hready
      have hlt : i < all.size := (Array.getElem?_eq_some_iff.1 ho).1
      have himem : i ∈ rest all.size listed := List.mem_filter.2 ⟨List.mem_range.2 hlt, by simp only [h0, Bool.not_false]⟩
      obtain ⟨l1, l2, q1, q2, q3⟩ := rest_split himem
      obtain ⟨c1, c2, c3⟩ := hchk i hlt o ho
      have hanc : ∀ j ∈ anc.getD i [], listed.getD j false = true := by
        intro j hj
        obtain ⟨-, e, he, hb, hor⟩ := c2 j hj
        have hl := haft e (Array.mem_toList_iff.1 he) hb
        rcases hor with rfl | hor
        · exact hl
        · exact hinv e.on hl j hor
      rw [q1] at hs
      have hunl : ∀ j ∈ l1, listed.getD j false = false ∧ j < all.size := by
        intro j hj
        have hjm : j ∈ rest all.size listed := by rw [q1]; simp [hj]
        have hm := List.mem_filter.1 hjm
        have hjl := List.mem_range.1 hm.1
        have : listed.getD j true = false := by simpa using hm.2
        have hb2 : j < listed.size := by omega
        rw [Array.getD_eq_getD_getElem?, Array.getElem?_eq_getElem hb2] at this ⊢
        exact ⟨by simpa using this, hjl⟩
      have hsoft : ∀ j ∈ l1, ((quiet.contains i = true ∨ (gTn gen i).isSome = true) ∧ (quiet.contains j = true ∨ (gTn gen j).isSome = true) ∧ ∀ t, ((dstOf all i).toList ++ (gTn gen i).getD []).contains t = true → ((dstOf all j).toList ++ (gTn gen j).getD []).contains t = true → False) ∧ ordd anc i j = false := fun j hj => by
        have hji := q2 j hj
        obtain ⟨u1, u2⟩ := hunl j hj
        have hnc : (anc.getD i []).contains j = false := by
          rcases hx : (anc.getD i []).contains j with _ | _
          · rfl
          · have := hanc j (List.contains_iff_mem.1 hx); rw [u1] at this; cases this
        rcases c3 j hji with h | h
        · rw [hnc] at h; cases h
        · refine ⟨h, ?_⟩
          unfold ordd
          simp only [Bool.or_eq_false_iff, decide_eq_false_iff_not]
          refine ⟨by omega, hnc, ?_⟩
          rcases hx : (anc.getD j []).contains i with _ | _
          · rfl
          · obtain ⟨oj, hoj⟩ : ∃ oj, all[j]? = some oj := ⟨_, Array.getElem?_eq_getElem u2⟩
            have := ((hchk j u2 oj hoj).2.1 i (List.contains_iff_mem.1 hx)).1
            omega
      obtain ⟨σ1, s1, s2⟩ : ∃ σ1, DStep P all anc quiet gen i σ σ1 ∧ SDr P all anc quiet gen (l1 ++ l2) σ1 σ' := by
        cases hl : l1 with
        | nil => rw [hl] at hs; exact hs
        | cons j0 l0 =>
          exact hl ▸ SDr.front (hsoft j0 (by rw [hl]; simp)).1.1 l1 (fun j hj => ⟨(hsoft j hj).1.2.1, (hsoft j hj).2, (hsoft j hj).1.2.2⟩) hs
      refine s1.wp (fun o ho => hap i o ho) I hC (fun o ho => hdk i o ho) ?_
      intro a' w' Sh' Fs' V' k1 k2 k3 k4 k5
      refine ih (listed.setIfInBounds i true) ?_ (by simpa using hsz) ?_ k1 k2 (by rw [q3]; exact s2) (hn.trans k3 k4 k5)
      · rw [q3]; rw [q1] at hlen; simp at hlen ⊢; omega
      · intro k hk j hj
        by_cases e : k = i
        · subst e; exact getD_set_true (hanc j hj)
        · rw [getD_set_ne false (Ne.symm e)] at hk
          exact getD_set_true (hinv k hk j hj)
end
end
end Go.Eng
