/- The engine, part O: drawn regions: whatever the order, it comes to the same. -/
import Derived.Test.YtlaliacfonfflaaEngN
namespace Go.Eng
open Go
set_option linter.unusedVariables false
set_option linter.unusedSimpArgs false
section
variable {P : Program} {w w' : World} {Sh Sh' : Foot} {Fs : Nat → Foot} {V : Nat → Value} {σ : Nat → AV} {a : Act} {o : Oper} {N : Nat}

theorem goes_sound (I : Inv w Sh Fs V σ) (hC : Ctx N V a) {all : Array Oper} {b : Bool} (h : goes all σ o = some b) : Region.wanted o (yielded all a.tmps) = b := by
  unfold goes at h
  unfold Region.wanted
  cases hg : o.guard with
  | none => simp only [hg, Option.some.injEq] at h; exact h
  | some jw =>
    obtain ⟨j, want⟩ := jw
    simp only [hg] at h ⊢
    cases hd : dstOf all j with
    | none => simp [hd] at h
    | some d =>
      simp only [hd] at h
      cases hlt : Nat.blt d HB
      · simp [hlt] at h
      · simp only [hlt, cond_true] at h
        replace hlt : d < HB := Nat.blt_eq ▸ hlt
        split at h
        · rename_i b' hσ
          cases h
          have hr := I.rep d
          rw [hσ] at hr
          simp only [Rep] at hr
          have hv := hr.1
          rw [hC.va d hlt] at hv
          have hsome : a.tmps[d]? = some (.bool b') := by
            rw [Array.getD_eq_getD_getElem?] at hv
            cases hx : a.tmps[d]? with
            | none => rw [hx] at hv; simp [undef] at hv
            | some y => rw [hx] at hv; simp at hv; rw [hv]
          have hy : yielded all a.tmps j = some b' := by
            unfold yielded
            unfold dstOf at hd
            rw [hd]
            simp [hsome]
          rw [hy]
          simp
        · rename_i hσ
          cases h
          have hr := I.rep d
          rw [hσ] at hr
          simp only [Rep] at hr
          obtain ⟨xs, hv, -⟩ := hr
          rw [hC.va d hlt] at hv
          have hy : yielded all a.tmps j = none := by
            unfold yielded
            unfold dstOf at hd
            rw [hd]
            rw [Array.getD_eq_getD_getElem?] at hv
            cases hx : a.tmps[d]? with
            | none => simp [hx]
            | some y => rw [hx] at hv; simp at hv; subst hv; simp [hx]
          rw [hy]; rfl
        · cases h
theorem Nxt.trans {σ2 : Nat → AV} {Fs1 : Nat → Foot} {V1 : Nat → Value} {a1 : Act} {w1 : World} {Sh1 : Foot} {K : Act → World → Prop} (h : Nxt N w Sh Fs V a σ2 K) (hd : a1.defers = a.defers) (hV : ∀ t, HB ≤ t → V1 t = V t) (hE : Ext w Sh (T Fs) w1 Sh1 (T Fs1)) : Nxt N w1 Sh1 Fs1 V1 a1 σ2 K :=
  fun a' w' Sh' Fs' V' i1 i2 i3 i4 i5 => h a' w' Sh' Fs' V' i1 i2 (i3.trans hd) (fun t ht => (i4 t ht).trans (hV t ht)) (hE.trans i5)
theorem Nxt.here {K : Act → World → Prop} (h : Nxt N w Sh Fs V a σ K) (I : Inv w Sh Fs V σ) (hC : Ctx N V a) : K a w :=
  h a w Sh Fs V I hC rfl (fun _ _ => rfl) (Ext.refl _ _ _)
/-- An operation that is passed over. -/
theorem skip_put (I : Inv w Sh Fs V σ) (hC : Ctx N V a) (hd : dok N o = true) {K : Act → World → Prop} (hn : Nxt N w Sh Fs V a (putD σ o.dst .dead) K) : K (a.put o.dst undef) w := by
  obtain ⟨Fs', V', i1, i2, i3, i4⟩ := land (o := o) (av := .dead) (v := undef) (Sh' := Sh) (Fd := noF) I hC hd (F0 := noF) (Keeps.refl noF w) (fun _ => Disj.no' _) (Disj.no _) (Le.refl _) (fun b o f => .inl f) I.sbd (by simp only [Rep]) (fun _ _ f => f.elim) (Disj.no' _) (fun _ => Disj.no' _) (fun _ _ _ f => f.elim)
  refine hn _ _ _ _ _ i1 i2 (put_defers _ _ _) i3 ⟨i4.keeps.mono (Le.or (Le.refl _) (Le.no _)), i4.sh, fun b o f => ?_, fun b o f => ?_⟩
  · rcases i4.new b o f with g | (g | g) | g
    · exact .inl g
    · exact .inr (.inl g)
    · exact g.elim
    · exact .inr (.inr g)
  · rcases i4.own b o f with (g | g) | g
    · exact .inl g
    · exact g.elim
    · exact .inr g

theorem skip_putT (I : Inv w Sh Fs V σ) (hC : Ctx N V a) (hd : dok N o = true) {K : Act → World → Prop} (hn : Nxt N w Sh Fs V a (putD σ o.dst (.tu [])) K) : K (a.put o.dst undef) w := by
  obtain ⟨Fs', V', i1, i2, i3, i4⟩ := land (o := o) (av := .tu []) (v := undef) (Sh' := Sh) (Fd := noF) I hC hd (F0 := noF) (Keeps.refl noF w) (fun _ => Disj.no' _) (Disj.no _) (Le.refl _) (fun b o f => .inl f) I.sbd (by simp only [Rep]; exact ⟨#[], rfl, by simp [Reps]⟩) (fun _ _ f => f.elim) (Disj.no' _) (fun _ => Disj.no' _) (fun _ _ _ f => f.elim)
  refine hn _ _ _ _ _ i1 i2 (put_defers _ _ _) i3 ⟨i4.keeps.mono (Le.or (Le.refl _) (Le.no _)), i4.sh, fun b o f => ?_, fun b o f => ?_⟩
  · rcases i4.new b o f with g | (g | g) | g
    · exact .inl g
    · exact .inr (.inl g)
    · exact g.elim
    · exact .inr (.inr g)
  · rcases i4.own b o f with (g | g) | g
    · exact .inl g
    · exact g.elim
    · exact .inr g

/-! What hides. -/
mutual
theorem mask_le {bad bad' : Nat → List Nat → Bool} (h : ∀ r p, bad' r p = true → bad r p = true) : ∀ (a : AV), mask bad a = a → mask bad' a = a
  | .sc _, _ => rfl
  | .nl, _ => rfl
  | .im .., _ => rfl
  | .ow .., _ => rfl
  | .ip _, _ => rfl
  | .op _, _ => rfl
  | .dead, _ => rfl
  | .vw r p off n, e => by
    simp only [mask] at e ⊢
    cases hb : bad' r p
    · rfl
    · rw [h r p hb] at e; exact e
  | .ad r p i, e => by
    simp only [mask] at e ⊢
    cases hb : bad' r p
    · rfl
    · rw [h r p hb] at e; exact e
  | .ag cs, e => by
    simp only [mask, AV.ag.injEq] at e ⊢
    exact maskL_le h cs e
  | .tu cs, e => by
    simp only [mask, AV.tu.injEq] at e ⊢
    exact maskL_le h cs e
theorem maskL_le {bad bad' : Nat → List Nat → Bool} (h : ∀ r p, bad' r p = true → bad r p = true) : ∀ (cs : List AV), maskL bad cs = cs → maskL bad' cs = cs
  | [], _ => rfl
  | c :: cs, e => by
    simp only [maskL, List.cons.injEq] at e ⊢
    exact ⟨mask_le h c e.1, maskL_le h cs e.2⟩
end
theorem maskR_upd {M : List Nat} {d : Nat} (h : M.contains d = true) (σ : Nat → AV) (x : AV) : maskR M (upd σ d x) = maskR M σ := by
  funext t
  unfold maskR upd
  by_cases e : t = d
  · subst e; simp only [h, if_true]
  · simp only [e, if_false]
theorem freeOf_upd {d e : Nat} {σ : Nat → AV} {x : AV} (h : freeOf σ d) (hx : mask (isR d) x = x) : freeOf (upd σ e x) d := by
  intro t
  unfold upd
  split
  · exact hx
  · exact h t
theorem freeOf_back {d e : Nat} {σ : Nat → AV} {x : AV} (h : freeOf (upd σ e x) d) (he : σ e = .dead) : freeOf σ d := by
  intro t
  by_cases e' : t = e
  · subst e'; rw [he]; rfl
  · have := h t; rwa [upd_ne _ _ _ e'] at this
section
variable {all : Array Oper} {anc : List (List Nat)} {quiet : List Nat}
theorem mem_hides {i j d : Nat} (hi : i ≠ j) (hj : j < all.size) (h1 : (anc.getD i []).contains j = false) (h2 : (anc.getD j []).contains i = false) (hd : dstOf all j = some d) : (hides all anc i).contains d = true := by
  rw [List.contains_iff_mem]
  unfold hides
  rw [List.mem_filterMap]
  refine ⟨j, List.mem_range.2 hj, ?_⟩
  rw [if_neg (by rw [h1, h2]; simp only [Bool.or_false, decide_eq_true_eq]; exact fun e => hi e.symm)]
  exact hd
theorem CQ.dst {M : List Nat} {τ : Nat → AV} {u : Option (Nat × AV)} (h : CQ P all M τ o u) : u = none ∨ ∃ d av, u = some (d, av) ∧ o.dst = some d ∧ mask (fun r _ => r == d || M.contains r) av = av := by
  rcases h with ⟨d, av, h1, -, -, h4, rfl⟩ | ⟨av, -, -, -, rfl⟩ | ⟨d, -, -, rfl⟩
  · exact .inr ⟨d, av, rfl, h1, h4⟩
  · exact .inl rfl
  · exact .inl rfl
theorem QS.swap {i j : Nat} {σ : Nat → AV} {ui uj : Option (Nat × AV)} (hij : i ≠ j) (h1 : (anc.getD i []).contains j = false) (h2 : (anc.getD j []).contains i = false) (hdd : ∀ d d', dstOf all i = some d → dstOf all j = some d' → d ≠ d')
    (hj : QS P all anc quiet j σ uj) (hi : QS P all anc quiet i (appU σ uj) ui) : QS P all anc quiet i σ ui ∧ QS P all anc quiet j (appU σ ui) uj ∧ appU (appU σ ui) uj = appU (appU σ uj) ui := by
  obtain ⟨oj, j1, j2, j3, j4⟩ := hj
  obtain ⟨oi, i1, i2, i3, i4⟩ := hi
  have hjs : j < all.size := (Array.getElem?_eq_some_iff.1 j1).1
  have his : i < all.size := (Array.getElem?_eq_some_iff.1 i1).1
  have dj : dstOf all j = oj.dst := by simp [dstOf, j1]
  have di : dstOf all i = oi.dst := by simp [dstOf, i1]
  have hmi : maskR (hides all anc i) (appU σ uj) = maskR (hides all anc i) σ := by
    rcases j4.dst with rfl | ⟨d, av, rfl, hd, -⟩
    · rfl
    · exact maskR_upd (mem_hides hij hjs h1 h2 (dj.trans hd)) σ av
  have hmj : maskR (hides all anc j) (appU σ ui) = maskR (hides all anc j) σ := by
    rcases i4.dst with rfl | ⟨d, av, rfl, hd, -⟩
    · rfl
    · exact maskR_upd (mem_hides (Ne.symm hij) his h2 h1 (di.trans hd)) σ av
  rw [hmi] at i4
  refine ⟨⟨oi, i1, i2, fun d hd => ?_, i4⟩, ⟨oj, j1, j2, fun d hd => ?_, by rw [hmj]; exact j4⟩, ?_⟩
  · obtain ⟨g1, g2⟩ := i3 d hd
    rcases j4.dst with rfl | ⟨e, av, rfl, he, -⟩
    · exact ⟨g1, g2⟩
    · have hne : d ≠ e := hdd d e (di.trans hd) (dj.trans he)
      exact ⟨by rwa [appU, upd_ne _ _ _ hne] at g1, freeOf_back g2 (j3 e he).1⟩
  · obtain ⟨g1, g2⟩ := j3 d hd
    rcases i4.dst with rfl | ⟨e, av, rfl, he, hm⟩
    · exact ⟨g1, g2⟩
    · have hne : d ≠ e := Ne.symm (hdd e d (di.trans he) (dj.trans hd))
      refine ⟨by rw [appU, upd_ne _ _ _ hne]; exact g1, freeOf_upd g2 (mask_le (fun r p hr => ?_) av hm)⟩
      have hr' : r = d := by simpa [isR] using hr
      subst hr'
      rw [mem_hides hij hjs h1 h2 (dj.trans hd)]
      simp
  · rcases i4.dst with rfl | ⟨d, av, rfl, hd, -⟩
    · rfl
    · rcases j4.dst with rfl | ⟨e, av', rfl, he, -⟩
      · rfl
      · have hne : d ≠ e := hdd d e (di.trans hd) (dj.trans he)
        funext t
        simp only [appU, upd]
        by_cases e1 : t = d <;> by_cases e2 : t = e <;> simp_all
theorem SDr.front {i : Nat} {l2 : List Nat} {σ' : Nat → AV} (hq : quiet.contains i = true → True) : ∀ (l1 : List Nat) {σ : Nat → AV}, (∀ j ∈ l1, quiet.contains i = true ∧ quiet.contains j = true ∧ i ≠ j ∧ (anc.getD i []).contains j = false ∧ (anc.getD j []).contains i = false ∧ ∀ d d', dstOf all i = some d → dstOf all j = some d' → d ≠ d') → SDr P all anc quiet (l1 ++ i :: l2) σ σ' → ∃ σ1, DStep P all anc quiet i σ σ1 ∧ SDr P all anc quiet (l1 ++ l2) σ1 σ'
  | [], σ, _, h => h
  | j :: l1, σ, hj, h => by
    obtain ⟨σa, s1, h⟩ := h
    obtain ⟨σb, s2, h⟩ := SDr.front hq l1 (fun k hk => hj k (List.mem_cons_of_mem _ hk)) h
    obtain ⟨q1, q2, q3, q4, q5, q6⟩ := hj j (by simp)
    rcases s1 with ⟨uj, hqj, rfl⟩ | ⟨o, e1, e2, -⟩
    · rcases s2 with ⟨ui, hqi, rfl⟩ | ⟨o, e1, e2, -⟩
      · obtain ⟨r1, r2, r3⟩ := QS.swap q3 q4 q5 q6 hqj hqi
        rw [← r3] at h
        exact ⟨_, .inl ⟨ui, r1, rfl⟩, ⟨_, .inl ⟨uj, r2, rfl⟩, h⟩⟩
      · rw [q1] at e2; cases e2
    · rw [q2] at e2; cases e2

theorem drop_mask (M : List Nat) (σ : Nat → AV) : ∀ t, maskR M σ t = .dead ∨ maskR M σ t = σ t := by
  intro t; unfold maskR; split
  · exact .inl rfl
  · exact .inr rfl
theorem DStep.wp {Q : Exit → Act → World → Prop} {i : Nat} {σ1 : Nat → AV} (h : DStep P all anc quiet i σ σ1) (I : Inv w Sh Fs V σ) (hC : Ctx N V a) (hd : ∀ o, all[i]? = some o → dok N o = true) {K : Act → World → Prop} (hn : Nxt N w Sh Fs V a σ1 K) : wpOp P all Q i K a w := by
  rcases h with ⟨u, ⟨o, h1, h2, h3, h4⟩, rfl⟩ | ⟨o, h1, h2, h3⟩
  · have Im : Inv w Sh Fs V (maskR (hides all anc i) σ) := I.drop (drop_mask _ _)
    unfold wpOp
    rw [h1]
    simp only
    rcases h4 with ⟨d, av, g1, g2, g3, g4, rfl⟩ | ⟨av, g1, g2, g3, rfl⟩ | ⟨d, g1, g2, rfl⟩
    · rw [goes_sound Im hC g2]
      simp only [if_true]
      refine .inl (g3 N w Sh Fs V a Im hC _ _ fun v w' Sh' Fd k hSS hnew hb hr hf hds => ?_)
      obtain ⟨hdead, hfree⟩ := h3 d g1
      have hr' : Rep w' Sh' (KS w V σ) av Fd v := by
        have := Rep.mask (K' := KS w V σ) (fun r _ => r == d || (hides all anc i).contains r) (fun v r p off n hk hb => by
          intro h x hx
          refine hk h x ?_
          have : maskR (hides all anc i) σ r = σ r := by
            simp only [Bool.or_eq_false_iff] at hb
            simp only [maskR, hb.2, Bool.false_eq_true, if_false]
          rw [this]; exact hx) (fun v r p j hk hb => by
          intro h x hx
          refine hk h x ?_
          have : maskR (hides all anc i) σ r = σ r := by
            simp only [Bool.or_eq_false_iff] at hb
            simp only [maskR, hb.2, Bool.false_eq_true, if_false]
          rw [this]; exact hx) av hr
        rwa [g4] at this
      obtain ⟨Fs', V', i1, i2, i3, i4⟩ := land I hC (hd o h1) (F0 := noF) k (fun _ => Disj.no' _) (Disj.no _) hSS (fun b o f => (hnew b o f).elim .inl (fun h => .inr (.inr h))) hb hr' (fun b o f => ⟨.inr (hf b o f).1, (hf b o f).2⟩) hds (fun _ => Disj.no' _) (fun _ _ _ f => f.elim)
      have hput : putD σ o.dst av = appU σ (some (d, av)) := by
        rw [g1]
        funext t
        simp only [putD, put, appU]
        by_cases e : t = d
        · subst e
          rw [upd_same]
          exact mask_le (fun r p hr => by simp only [isR] at hr; simp only [hr, Bool.true_or]) av g4
        · rw [upd_ne _ _ _ e]
          exact hfree t
      rw [hput] at i1
      refine hn _ _ _ _ _ i1 i2 (put_defers _ _ _) i3 ⟨i4.keeps.mono (Le.or (Le.refl _) (Le.no _)), i4.sh, fun b o f => ?_, fun b o f => ?_⟩
      · rcases i4.new b o f with g | (g | g) | g
        · exact .inl g
        · exact .inr (.inl g)
        · exact g.elim
        · exact .inr (.inr g)
      · rcases i4.own b o f with (g | g) | g
        · exact .inl g
        · exact g.elim
        · exact .inr g
    · rw [goes_sound Im hC g2]
      simp only [if_true]
      refine .inl (g3 N w Sh Fs V a Im hC _ _ fun v w' Sh' Fd k hSS hnew hb hr hf hds => ?_)
      rw [g1]
      have hs' : ∀ t, Disj (Fs t) Sh' := fun t b o f g => by
        rcases hnew b o g with g | g
        · exact I.shd t b o f g
        · exact absurd (I.bnd t b o f) (by omega)
      exact hn a w' Sh' Fs V (I.frame k (fun _ => Disj.no' _) (Disj.no _) hSS hs' hb) hC rfl (fun _ _ => rfl) ⟨k.mono (Le.no _), hSS, fun b o f => (hnew b o f).elim .inl (fun h => .inr (.inr h)), fun b o f => .inl f⟩
    · rw [goes_sound Im hC g2]
      simp only [Bool.false_eq_true, if_false]
      obtain ⟨hdead, hfree⟩ := h3 d g1
      have hput : putD σ o.dst .dead = σ := by
        rw [g1]
        funext t
        simp only [putD, put]
        by_cases e : t = d
        · subst e; rw [upd_same, hdead]; rfl
        · rw [upd_ne _ _ _ e]; exact hfree t
      exact skip_put I hC (hd o h1) (by rw [hput]; exact hn)
  · unfold wpOp
    rw [h1]
    simp only
    rcases h3 with ⟨g1, g2⟩ | ⟨g1, rfl⟩
    · rw [goes_sound I hC g1]
      simp only [if_true]
      exact .inl (g2 N w Sh Fs V a I hC (hd o h1) _ _ hn)
    · rw [goes_sound I hC g1]
      simp only [Bool.false_eq_true, if_false]
      exact skip_put I hC (hd o h1) hn

/-- What is not yet listed, in the text's order. -/
def rest (n : Nat) (listed : Array Bool) : List Nat := (List.range n).filter fun i => !listed.getD i true
theorem rest_split {n i : Nat} {listed : Array Bool} (hi : i ∈ rest n listed) : ∃ l1 l2, rest n listed = l1 ++ i :: l2 ∧ (∀ j ∈ l1, j < i) ∧ rest n (listed.setIfInBounds i true) = l1 ++ l2 := by
  have hmem := List.mem_filter.1 hi
  have hlt : i < n := List.mem_range.1 hmem.1
  have hl : listed.getD i true = false := by simpa using hmem.2
  have hsz : i < listed.size := by
    rcases Nat.lt_or_ge i listed.size with h | h
    · exact h
    · rw [Array.getD_eq_getD_getElem?, Array.getElem?_eq_none h] at hl; simp at hl
  have hr : List.range n = List.range i ++ i :: (List.range' (i + 1) (n - i - 1)) := by
    rw [List.range_eq_range', List.range_eq_range']
    have : n = i + (1 + (n - i - 1)) := by omega
    conv => lhs; rw [this]
    rw [← List.range'_append_1, Nat.zero_add, ← List.range'_append_1]
    rfl
  refine ⟨(List.range i).filter fun k => !listed.getD k true, (List.range' (i + 1) (n - i - 1)).filter fun k => !listed.getD k true, ?_, fun j hj => List.mem_range.1 (List.mem_filter.1 hj).1, ?_⟩
  · unfold rest
    rw [hr, List.filter_append, List.filter_cons_of_pos (by simp [hl])]
  · unfold rest
    rw [hr, List.filter_append, List.filter_cons_of_neg (by simp [hsz])]
    congr 1
    · refine List.filter_congr fun k hk => ?_
      have : i ≠ k := by have := List.mem_range.1 hk; omega
      rw [getD_set_ne true this]
    · refine List.filter_congr fun k hk => ?_
      have : i ≠ k := by have := List.mem_range'_1.1 hk; omega
      rw [getD_set_ne true this]
theorem drawn_any (hok : drawOk all anc quiet = true) (hdk : ∀ (i : Nat) (o : Oper), all[i]? = some o → dok N o = true) {Q : Exit → Act → World → Prop} {σ' : Nat → AV} : ∀ (fuel : Nat) (listed : Array Bool) {σ : Nat → AV} {w : World} {Sh : Foot} {Fs : Nat → Foot} {V : Nat → Value} {a : Act}, (rest all.size listed).length ≤ fuel → listed.size = all.size → (∀ k, listed.getD k false = true → ∀ j ∈ anc.getD k [], listed.getD j false = true) →
    Inv w Sh Fs V σ → Ctx N V a → SDr P all anc quiet (rest all.size listed) σ σ' → Nxt N w Sh Fs V a σ' (Q .normal) → wpAny P .any all Q fuel listed a w := by
  have hchk : ∀ i, i < all.size → ∀ o, all[i]? = some o → (∀ e ∈ o.after.toList, Region.binds .any e = true → e.on < i) ∧ (∀ j ∈ anc.getD i [], j < i ∧ ∃ e ∈ o.after.toList, Region.binds .any e = true ∧ (e.on = j ∨ j ∈ anc.getD e.on [])) ∧
      (∀ j, j < i → (anc.getD i []).contains j = true ∨ (quiet.contains i = true ∧ quiet.contains j = true ∧ ∀ d d', dstOf all i = some d → dstOf all j = some d' → d ≠ d')) := by
    intro i hi o ho
    have := List.all_eq_true.1 hok i (List.mem_range.2 hi)
    simp only [ho, Option.map_some, Option.getD_some, Bool.and_eq_true, List.all_eq_true, List.any_eq_true, Bool.or_eq_true, Bool.not_eq_true', decide_eq_true_eq, List.mem_range, beq_iff_eq] at this
    obtain ⟨⟨t1, t2⟩, t3⟩ := this
    refine ⟨fun e he hb => (t1 e he).resolve_left (by rw [hb]; simp), fun j hj => ?_, fun j hj => ?_⟩
    · obtain ⟨u1, e, u2, u3, u4⟩ := t2 j hj
      exact ⟨u1, e, u2, u3, u4.imp id (fun h => List.contains_iff_mem.1 h)⟩
    · rcases t3 j hj with h | ⟨⟨h1, h2⟩, h3⟩
      · exact .inl h
      · refine .inr ⟨h1, h2, fun d d' hd hd' => ?_⟩
        rw [hd, hd'] at h3
        simpa using h3
  intro fuel
  induction fuel with
  | zero =>
    intro listed σ w Sh Fs V a hlen hsz hinv I hC hs hn
    have hr : rest all.size listed = [] := List.eq_nil_of_length_eq_zero (by omega)
    rw [hr] at hs
    simp only [SDr] at hs
    subst hs
    refine ⟨?_, hn.here I hC⟩
    rw [List.eq_nil_iff_forall_not_mem]
    intro i hi
    have := (mem_ready.1 hi)
    obtain ⟨h0, o, ho, -⟩ := this
    have hmem : i ∈ rest all.size listed := List.mem_filter.2 ⟨List.mem_range.2 (Array.getElem?_eq_some_iff.1 ho).1, by simp only [h0, Bool.not_false]⟩
    rw [hr] at hmem; cases hmem
  | succ fuel ih =>
    intro listed σ w Sh Fs V a hlen hsz hinv I hC hs hn
    refine ⟨fun hre => ?_, fun i hi => ?_⟩
    · cases hr : rest all.size listed with
      | nil =>
        rw [hr] at hs
        simp only [SDr] at hs
        subst hs
        exact hn.here I hC
      | cons i l =>
        exfalso
        have hi : i ∈ rest all.size listed := by rw [hr]; simp
        have hm := List.mem_filter.1 hi
        have hlt := List.mem_range.1 hm.1
        have h0 : listed.getD i true = false := by simpa using hm.2
        obtain ⟨o, ho⟩ : ∃ o, all[i]? = some o := ⟨_, Array.getElem?_eq_getElem hlt⟩
        have : i ∈ Region.ready .any all listed := by
          rw [mem_ready]
          refine ⟨h0, o, ho, fun e he hb => ?_⟩
          have hon := (hchk i hlt o ho).1 e (Array.mem_toList_iff.2 he) hb
          obtain ⟨l1, l2, q1, q2, -⟩ := rest_split hi
          have hl1 : l1 = [] := by
            cases l1 with
            | nil => rfl
            | cons x xs =>
              rw [hr] at q1
              simp only [List.cons_append, List.cons.injEq] at q1
              have := q2 x (by simp)
              omega
          rcases hx : listed.getD e.on true with _ | _
          · exfalso
            have hmem : e.on ∈ rest all.size listed := List.mem_filter.2 ⟨List.mem_range.2 (by omega), by simp only [hx, Bool.not_false]⟩
            rw [q1, hl1, List.nil_append] at hmem
            have hsub : ∀ j ∈ l2, i < j := by
              intro j hj
              have hpw : (rest all.size listed).Pairwise (· < ·) := List.Pairwise.filter _ List.pairwise_lt_range
              rw [q1, hl1, List.nil_append, List.pairwise_cons] at hpw
              exact hpw.1 j hj
            rcases List.mem_cons.1 hmem with h | h
            · omega
            · have := hsub _ h; omega
          · have hb2 : e.on < listed.size := by omega
            rw [Array.getD_eq_getD_getElem?, Array.getElem?_eq_getElem hb2] at hx ⊢
            simpa using hx
        rw [hre] at this; cases this
    · have hready := mem_ready.1 hi
      obtain ⟨h0, o, ho, haft⟩ := hready
      have hlt : i < all.size := (Array.getElem?_eq_some_iff.1 ho).1
      have himem : i ∈ rest all.size listed := List.mem_filter.2 ⟨List.mem_range.2 hlt, by simp only [h0, Bool.not_false]⟩
      obtain ⟨l1, l2, q1, q2, q3⟩ := rest_split himem
      obtain ⟨c1, c2, c3⟩ := hchk i hlt o ho
      have hanc : ∀ j ∈ anc.getD i [], listed.getD j false = true := by
        intro j hj
        obtain ⟨-, e, he, hb, hor⟩ := c2 j hj
        have hl := haft e (Array.mem_toList_iff.1 he) hb
        rcases hor with rfl | hor
        · exact hl
        · exact hinv e.on hl j hor
      rw [q1] at hs
      have hunl : ∀ j ∈ l1, listed.getD j false = false ∧ j < all.size := by
        intro j hj
        have hjm : j ∈ rest all.size listed := by rw [q1]; simp [hj]
        have hm := List.mem_filter.1 hjm
        have hjl := List.mem_range.1 hm.1
        have : listed.getD j true = false := by simpa using hm.2
        have hb2 : j < listed.size := by omega
        rw [Array.getD_eq_getD_getElem?, Array.getElem?_eq_getElem hb2] at this ⊢
        exact ⟨by simpa using this, hjl⟩
      obtain ⟨σ1, s1, s2⟩ := SDr.front (fun _ => trivial) l1 (fun j hj => by
        have hji := q2 j hj
        obtain ⟨u1, u2⟩ := hunl j hj
        have hnc : (anc.getD i []).contains j = false := by
          rcases hx : (anc.getD i []).contains j with _ | _
          · rfl
          · have := hanc j (List.contains_iff_mem.1 hx); rw [u1] at this; cases this
        rcases c3 j hji with h | ⟨h1, h2, h3⟩
        · rw [hnc] at h; cases h
        · refine ⟨h1, h2, by omega, hnc, ?_, h3⟩
          rcases hx : (anc.getD j []).contains i with _ | _
          · rfl
          · obtain ⟨oj, hoj⟩ : ∃ oj, all[j]? = some oj := ⟨_, Array.getElem?_eq_getElem u2⟩
            have := ((hchk j u2 oj hoj).2.1 i (List.contains_iff_mem.1 hx)).1
            omega) hs
      refine s1.wp I hC (fun o ho => hdk i o ho) ?_
      intro a' w' Sh' Fs' V' k1 k2 k3 k4 k5
      refine ih (listed.setIfInBounds i true) ?_ (by simpa using hsz) ?_ k1 k2 (by rw [q3]; exact s2) (hn.trans k3 k4 k5)
      · rw [q3]; rw [q1] at hlen; simp at hlen ⊢; omega
      · intro k hk j hj
        by_cases e : k = i
        · subst e; exact getD_set_true (hanc j hj)
        · rw [getD_set_ne false (Ne.symm e)] at hk
          exact getD_set_true (hinv k hk j hj)
end
end
end Go.Eng
