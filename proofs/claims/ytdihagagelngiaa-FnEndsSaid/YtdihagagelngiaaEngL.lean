/- The engine, part L: stores, slice literals and appends bear it out. -/
import Derived.Test.YtdihagagelngiaaEngK
namespace Go.Eng
open Go
set_option linter.unusedVariables false
set_option linter.unusedSimpArgs false
section
variable {P : Program} {w w' : World} {Sh Sh' : Foot} {Fs : Nat → Foot} {V : Nat → Value} {σ : Nat → AV} {a : Act} {o : Oper} {N : Nat} {K : Value → AV → Prop}

theorem s_store {σ1 σ2 : Nat → AV} {t : TypeId} {x y : Operand} {r i : Nat} {p : List Nat} {tr : AV} {vs : List AV} (ho : o.op = .store t x y) (hx : ov σ x = .ad r p i) (hr : (nodeCells σ1 r p).isSome = true) (h : TakeL σ [ov σ y] [tr] σ1) (hv : acells tr = some vs) (hs : szT P t = some vs.length) (hS : StoreL σ1 r p i vs σ2) : SOp P o σ (putD σ2 o.dst .dead) := by
  intro N w Sh Fs V a I hC hdk next Q hn
  obtain ⟨Fs1, Ft, I1, hrep, hle, hdt, hft, hmono⟩ := h.sound I (Reps.one (I.ov hC.va y))
  obtain ⟨v, e, hrep⟩ := hrep.of_one
  cases e
  obtain ⟨hcs, h1⟩ := hrep.acells hv
  have hxr := I.ov hC.va x
  rw [hx] at hxr
  simp only [Rep] at hxr
  have hks := hmono _ _ hxr.1
  obtain ⟨cs, hcs1⟩ := Option.isSome_iff_exists.1 hr
  obtain ⟨nd, u, e1, e2, hat, -⟩ := I1.node hcs1
  obtain ⟨ad0, e3, e4⟩ := hks _ _ hat
  have hbt : Bd w Ft := fun b o f => by obtain ⟨r, g⟩ := hft b o f; exact I.bnd r b o g
  have hst : Disj Ft Sh := fun b o f s => by obtain ⟨r, g⟩ := hft b o f; exact I.shd r b o g s
  obtain ⟨w2, Fs2, g1, g2, g3, g4, g5⟩ := hS.sound (P := P) (ad := ad0.add i) (k := 0) I1 hcs h1 hdt hst hbt (fun h x hx => by
    obtain ⟨ad1, q1, q2⟩ := hks h x hx
    rw [e3] at q1
    simp only [Value.pointer.injEq, Option.some.injEq] at q1
    exact ⟨ad1, q2, by rw [add_zero', q1]⟩)
  have hsize : (a.eval y).cells.size = vs.length := by have := hcs.length; simp at this; omega
  have hrun : (execOp a.eval o).run P w = .ok .skip w2 := by
    simp only [execOp, ho, Instr.storeAt, Instr.sureAddr, e3, storeVar, Sem.run_bind, Sem.run_pure, Result.andThen_ok, run_sizeOf hs, hsize, ne_eq, not_true_eq_false, if_false, g1]
  obtain ⟨Fs', V', i1, i2, i3, i4⟩ := land (o := o) (av := .dead) (v := undef) (Sh' := Sh) (Fd := noF) g2 hC hdk (F0 := noF) (Keeps.refl noF w2) (fun _ => Disj.no' _) (Disj.no _) (Le.refl _) (fun b o f => .inl f) g2.sbd (by simp only [Rep]) (fun _ _ f => f.elim) (Disj.no' _) (fun _ => Disj.no' _) (fun _ _ _ f => f.elim)
  unfold Oper.wp
  rw [hrun]
  refine hn _ _ _ _ _ i1 i2 (put_defers _ _ _) i3 ?_
  have hsub : Le (Or (T Fs1) Ft) (T Fs) := Le.or (fun b o ⟨r, f⟩ => ⟨r, hle r b o f⟩) hft
  have hE : Ext w Sh (T Fs) w2 Sh (T Fs2) := ⟨g3.mono hsub, Le.refl _, fun b o f => .inl f, fun b o f => .inl (hsub b o (g5 b o f))⟩
  refine hE.trans ⟨i4.keeps.mono (Le.or (Le.refl _) (Le.no _)), i4.sh, fun b o f => ?_, fun b o f => ?_⟩
  · rcases i4.new b o f with g | (g | g) | g
    · exact .inl g
    · exact .inr (.inl g)
    · exact g.elim
    · exact .inr (.inr g)
  · rcases i4.own b o f with (g | g) | g
    · exact .inl g
    · exact g.elim
    · exact .inr g

theorem run_buildSlice0 (w : World) {t e len : Nat} {parts : Array (Nat × Value)} {cells : Array Value} {sz : Nat} {z : Value} (hu : P.underlying t = some (.slice e)) (hs : szT P e = some sz) (hz : zeroT P e = some z) (hl : len * sz ≤ 16777216) (h0 : len * sz = 0)
    (h : Instr.fill (fun i => some (i * sz, sz)) #[] parts.toList = some cells) : (Instr.buildSlice t len parts).run P w = .ok (.slice (some ⟨w.heap.size, 0, none⟩) len len) (w.alloc (.cells cells e)) := by
  have h2 : ¬ (0 > 2 ^ 24) := by omega
  simp only [Instr.buildSlice, Sem.run_bind, run_underlying hu, Result.andThen_ok, run_sizeOf hs, h0, h2, if_false, if_true, Sem.run_pure]
  have e1 : (Array.range 0).map (fun x => (#[] : Array Value)[x % (#[] : Array Value).size]!) = #[] := by simp
  simp only [e1, h, Sem.run_bind, newRow, run_newObj, Result.andThen_ok, Sem.run_pure]
  rfl
theorem s_buildS {σ1 : Nat → AV} {t e sz len : Nat} {parts : Array (Nat × Operand)} {us cs : List AV} {z : Value} {d : Nat} (ho : o.op = .buildSlice t len parts) (hd : o.dst = some d) (ht : P.underlying t = some (.slice e)) (hs : szT P e = some sz) (hz : zeroT P e = some z) (hzs : z.cells.size = sz) (h0 : 0 < sz) (hl : len * sz ≤ 16777216) (h1 : z.cells.toList.all (·.oneCell') = true)
    (h : TakeL σ (parts.toList.map fun x => ov σ x.2) us σ1) (hf : fillA (fun i => some (i * sz, sz)) ((madeCells z.cells (len * sz)).toList.map c1) ((parts.toList.map (·.1)).zip us) = some cs) : SOp P o σ (put σ1 d (.ow e sz len cs)) := by
  intro N w Sh Fs V a I hC hdk next Q hn
  have hvals := I.ovs hC.va parts.toList
  rw [List.map_map, List.map_map] at hvals
  obtain ⟨Fs1, Ft, I1, hrep, hle, hdt, hft, -⟩ := h.sound I hvals
  have hbt : Bd w Ft := fun b o f => by obtain ⟨r, g⟩ := hft b o f; exact I.bnd r b o g
  have hlen : us.length = parts.toList.length := by have := hrep.length; simpa using this
  have hz1 : ((parts.toList.map (·.1)).zip us).map (·.1) = (parts.toList.map fun x => (x.1, a.eval x.2)).map (·.1) := by
    rw [List.map_fst_zip (by simp [hlen])]; simp [List.map_map, Function.comp_def]
  have hz2 : ((parts.toList.map (·.1)).zip us).map (·.2) = us := List.map_snd_zip (by simp [hlen])
  have hone : ∀ u ∈ (madeCells z.cells (len * sz)).toList, u.oneCell' = true := by
    intro u hu
    simp only [madeCells, Array.toList_map, List.mem_map] at hu
    obtain ⟨i, -, rfl⟩ := hu
    have hlt : i % z.cells.size < z.cells.size := Nat.mod_lt _ (by omega)
    rw [getElem!_pos z.cells (i % z.cells.size) hlt]
    exact List.all_eq_true.1 h1 _ (Array.mem_toList_iff.2 (Array.getElem_mem _))
  obtain ⟨xs', f1, f2, f3, f4⟩ := fillA_ok (w := w) (Sh := Sh) (K := KF) ((parts.toList.map (·.1)).zip us) (parts.toList.map fun x => (x.1, a.eval x.2)) (F := noF) (G := Ft) (xs := madeCells z.cells (len * sz)) hz1 (by rw [hz2, List.map_map]; exact hrep) (Reps.c1 _) hone (Disj.no' _) hf
  have hsz : xs'.size = len * sz := by rw [f4, size_madeCells]
  have hm : len ≤ maxLen := by
    have := Nat.le_mul_of_pos_right len h0
    simp only [maxLen]; omega
  have hcells : Reps w Sh KF cs Ft xs'.toList := Reps.wider (Le.refl _) (fun _ _ h => h) (Le.or (Le.no _) (Le.refl _)) f2
  have hrow := rep_row (w := w) (Sh := Sh) (K := KF) (e := e) (sz := sz) (n := len) (cap := len) (xs := xs'.toList) (ys := []) (by simpa using hsz) (by simpa using hsz) (Nat.le_refl _) hm h0 f3 hcells hbt
  have hpe : (parts.map fun (i, x) => (i, a.eval x)).toList = parts.toList.map fun x => (x.1, a.eval x.2) := by simp
  refine wp_value (v := .slice (some ⟨w.heap.size, 0, none⟩) len len) (w' := w.alloc (.cells xs' e)) ?_ ?_
  · unfold execOp
    rw [ho]
    show (do let v ← Instr.buildSlice t len (parts.map fun (i, x) => (i, a.eval x)); pure (Next.value v) : Sem Next).run P w = _
    rw [Sem.run_bind]
    by_cases hp : len * sz = 0
    · rw [run_buildSlice0 (P := P) w ht hs hz hl hp (cells := xs') (by
        rw [hpe]
        have : madeCells z.cells (len * sz) = #[] := by rw [hp]; simp [madeCells]
        rw [this] at f1; exact f1)]
      rfl
    · have hs' := hs
      have hz' := hz
      unfold szT at hs'
      unfold zeroT at hz'
      rw [Option.map_eq_some_iff] at hs'
      rw [Option.bind_eq_some_iff] at hz'
      obtain ⟨inf, hinf, hs'⟩ := hs'
      obtain ⟨inf', hinf', hz'⟩ := hz'
      rw [hinf] at hinf'; cases hinf'
      rw [run_buildSlice w t e len _ xs' inf z ht hinf hz' (by rw [hs']; omega) (by rw [hs']; exact hp) (by rw [hpe, hs']; exact f1)]
      rfl
  · refine moved (σ1 := σ1) I I1 hle hdt hft hC hdk (Keeps.alloc w _) (Le.no _) (by simpa using hrow) (fun b o f => ?_) (by rw [hd]; exact hn)
    rcases f with f | f
    · subst f; exact ⟨.inr (Nat.le_refl _), by rw [size_alloc]; omega⟩
    · have := hbt b o f
      exact ⟨.inl f, by rw [size_alloc]; omega⟩

/-! Appends. -/
theorem Reps.pl : ∀ {cs : List AV} {F : Foot} {xs : List Value}, cs.all isPl = true → Reps w Sh K cs F xs → Reps w Sh KF cs noF xs
  | [], F, xs, hp, h => by simpa only [Reps] using h
  | c :: cs, F, xs, hp, h => by
    simp only [List.all_cons, Bool.and_eq_true] at hp
    simp only [Reps] at h ⊢
    obtain ⟨x, xs', F1, F2, rfl, h1, h2, hd, l1, l2⟩ := h
    refine ⟨x, xs', noF, noF, rfl, ?_, h2.pl hp.2, Disj.no _, Le.refl _, Le.refl _⟩
    have := hp.1
    cases c <;> simp only [isPl, Bool.false_eq_true] at this <;> simpa only [Rep] using h1
theorem Cpy.sound (I : Inv w Sh Fs V σ) {x : AV} {vx : Value} {m : Nat} {L : List AV} (hr : Rep w Sh (KS w V σ) x noF vx) (h : Cpy σ x m L) :
    ∃ A c news, vx = .slice A m c ∧ (∀ ad, A = some ad → ∀ (j : Nat) (u : Value), news[j]? = some u → w.cell? (ad.add j) = some u) ∧ (news ≠ [] → ∃ ad, A = some ad) ∧ (∀ u ∈ news, u.oneCell' = true) ∧ Reps w Sh KF L noF news := by
  cases h with
  | im m cs =>
    simp only [Rep] at hr
    obtain ⟨A, cap, xs, rfl, hn, hc, h1, hrs⟩ := hr
    refine ⟨A, cap, xs, rfl, fun ad e j u hj => ?_, fun hx => ?_, h1, hrs⟩
    · obtain ⟨ad', e', hcell⟩ := hc (by rintro rfl; simp at hj)
      rw [e] at e'; cases e'
      exact (hcell j u hj).1
    · obtain ⟨ad', e', -⟩ := hc hx
      exact ⟨ad', e'⟩
  | vw r off m e sz k p cs hn hl hp =>
    obtain ⟨h, A, m', cap, A', cap', hat, e1, e2, e3, e4, e5, e6⟩ := I.view hr hn
    obtain ⟨f, u, Fx, Fr, hf, hx, hat2, -⟩ := Rep.deep p (I.rep r) hn
    obtain ⟨rfl, -⟩ := hat2.det hat
    simp only [Rep] at hx
    obtain ⟨xs, H, ho, hz, hg, h1, hle, hrs⟩ := hx
    have hnews := ((hrs.drop off).take (m * sz)).pl hp
    have hlen := hrs.length
    refine ⟨A', cap', (xs.drop off).take (m * sz), e2, fun ad e j y hj => ?_, fun hne => ?_, fun y hy => h1 y (List.mem_of_mem_drop (List.mem_of_mem_take hy)), hnews⟩
    · have hj' : (xs.drop off)[j]? = some y := by
        rw [List.getElem?_take] at hj
        split at hj
        · exact hj
        · cases hj
      rw [List.getElem?_drop] at hj'
      have hlt := (List.getElem?_eq_some_iff.1 hj).1
      have hm0 : m ≠ 0 := by rintro rfl; simp at hlt
      have hcs : cs ≠ [] := by
        rintro rfl
        have h1' := (List.getElem?_eq_some_iff.1 hj').1
        simp at hlen; omega
      obtain ⟨ad0, rfl⟩ := e6 hcs
      have had : ad = ad0.add off := by
        by_cases hz0 : off = 0
        · subst hz0; rw [(e4 rfl).1] at e; cases e; rw [add_zero']
        · rw [e5 hz0 hm0] at e; simpa using e.symm
      rcases ho.2 with ⟨e', -⟩ | ⟨g, cap2, cur, e', -⟩
      · rw [e'] at e1; cases e1
      · rw [e'] at e1; cases e1
        rw [had, add_add]
        exact ho.cells (g := g) (by rw [e']; rfl) _ _ hj'
    · have hxs : xs ≠ [] := by rintro rfl; simp at hne
      have hcs : cs ≠ [] := by rintro rfl; simp at hlen; exact hxs (List.eq_nil_of_length_eq_zero hlen.symm)
      obtain ⟨ad0, rfl⟩ := e6 hcs
      by_cases hz0 : off = 0
      · exact ⟨ad0, (e4 hz0).1⟩
      · have hm0 : m ≠ 0 := by rintro rfl; simp at hne
        exact ⟨_, e5 hz0 hm0⟩
theorem Base.sound {e sz n : Nat} {b : AV} {cs : List AV} {F : Foot} {v : Value} (hB : Base e sz b n cs) (h : Rep w Sh KF b F v) : ∃ xs G, w.ownsRow 0 e sz v n xs ∧ (∀ g, v.ownBlock = some g → (∀ o, F g o) ∧ ∀ o, ¬ G g o) ∧ (∀ u ∈ xs, u.oneCell' = true) ∧ Le G F ∧ Reps w Sh KF cs G xs := by
  cases hB with
  | nl =>
    simp only [Rep] at h
    subst h
    exact ⟨[], noF, World.ownsRow_nil w 0 e sz, fun g hg => by simp [Value.ownBlock] at hg, by simp, Le.no _, by simp [Reps]⟩
  | ow n cs =>
    simp only [Rep] at h
    obtain ⟨xs, G, ho, hz, hg, h1, hle, hr⟩ := h
    exact ⟨xs, G, ho, hg, h1, hle, hr⟩
theorem run_append_zero (w : World) {t e sz n c : Nat} {ty : TypeId} {A : Option Addr} {v : Value} {xs : List Value} (ht : P.underlying t = some (.slice e)) (hs : szT P e = some sz) (ho : w.ownsRow 0 e sz v n xs) : (Builtin.append_ #[t, t] ty #[v, .slice A 0 c]).run P w = .ok v w := by
  have hv : ∃ B cap, v = .slice B n cap ∧ n ≤ cap := by
    rcases ho.2 with ⟨rfl, rfl⟩ | ⟨g, cap, cur, rfl, -, -, h, -⟩
    · exact ⟨_, _, rfl, Nat.le_refl _⟩
    · exact ⟨_, _, rfl, h⟩
  obtain ⟨B, cap, rfl, hn⟩ := hv
  have hfc : (Builtin.firstCells sz 0 (.slice A 0 c)).run P w = .ok #[] w := by
    cases A <;> simp [Builtin.firstCells, loadCells, loadCellsFrom]
  simp only [Builtin.append_, Sem.run_bind, Sem.run_pure, Result.andThen_ok, run_underlying ht, run_sizeOf hs, Builtin.lenOf, Nat.add_zero, hn, if_true, List.getElem?_toArray, List.getElem?_cons_zero, List.getElem?_cons_succ, hfc, Bool.not_false, Bool.false_eq_true, if_false]
  cases B <;> simp [storeCells, hfc]
/-- What an append leaves. -/
theorem grown_rep {e sz n m : Nat} {v v' : Value} {xs news : List Value} {cs L : List AV} {F G G2 : Foot} (hz : 0 < sz) (ho : w.ownsRow 0 e sz v n xs) (ho' : w'.ownsRow 0 e sz v' (n + m) (xs ++ news)) (hg : w.grownBy w' v.ownBlock) (hb : v'.ownBlock = v.ownBlock ∨ v'.ownBlock = some w.heap.size)
    (hF : ∀ g, v.ownBlock = some g → (∀ o, F g o) ∧ ∀ o, ¬ G g o) (h1 : ∀ u ∈ xs, u.oneCell' = true) (h2 : ∀ u ∈ news, u.oneCell' = true) (hr : Reps w Sh KF cs G xs) (hr2 : Reps w Sh KF L G2 news) (hd : Disj G G2) (hG2 : ∀ g, v.ownBlock = some g → ∀ o, ¬ G2 g o) (hbG : Bd w G) (hbG2 : Bd w G2) (hsh : Disj F Sh) :
    Keeps (fun b _ => v.ownBlock = some b) w w' ∧ Rep w' Sh KF (.ow e sz (n + m) (cs ++ L)) (Or (fun b _ => v'.ownBlock = some b) (Or G G2)) v' ∧ (∀ b, v'.ownBlock = some b → b < w'.heap.size) ∧ (∀ b, v.ownBlock = some b → b < w.heap.size) := by
  have hcell : ∀ g, v.ownBlock = some g → ∃ arr t fr, w.heap[g]? = some (Obj.cells arr t fr) := by
    intro g e
    rcases ho.2 with ⟨rfl, -⟩ | ⟨g', cap, cur, rfl, -, hh, -⟩
    · simp [Value.ownBlock] at e
    · simp only [Value.ownBlock, Option.some.injEq] at e; subst e; exact ⟨_, _, _, hh⟩
  have hk : Keeps (fun b _ => v.ownBlock = some b) w w' := Keeps.grown hg (fun g e o => e) hcell
  have hlt : ∀ b, v.ownBlock = some b → b < w.heap.size := fun b e => by obtain ⟨_, _, _, h⟩ := hcell b e; exact lt_of_heap h
  have hlt' : ∀ b, v'.ownBlock = some b → b < w'.heap.size := by
    intro g e
    rcases ho'.2 with ⟨rfl, -⟩ | ⟨g', cap, cur, rfl, -, hh, -⟩
    · simp [Value.ownBlock] at e
    · simp only [Value.ownBlock, Option.some.injEq] at e; subst e; exact lt_of_heap hh
  refine ⟨hk, ?_, hlt', hlt⟩
  simp only [Rep]
  refine ⟨xs ++ news, Or G G2, ho', hz, fun g e => ⟨fun o => .inl e, fun o f => ?_⟩, fun u hu => (List.mem_append.1 hu).elim (h1 u) (h2 u), Le.right _ _, ?_⟩
  · rcases hb with hb | hb
    · rw [hb] at e
      exact f.elim ((hF g e).2 o) (hG2 g e o)
    · rw [hb] at e; cases e
      exact f.elim (fun f => absurd (hbG _ _ f) (Nat.lt_irrefl _)) (fun f => absurd (hbG2 _ _ f) (Nat.lt_irrefl _))
  · refine Reps.frame hk ?_ (Le.refl _) _ (fun _ _ h => h) ?_ (Le.refl _) (hr.append hr2 hd)
    · intro b o s e; exact hsh b o ((hF b e).1 o) s
    · exact Disj.or (fun b o e f => (hF b e).2 o f) (fun b o e f => hG2 b e o f)
theorem s_appendC {σ1 : Nat → AV} {t e sz by_ n m : Nat} {s x : Operand} {b : AV} {cs L : List AV} {z : Value} {d : Nat} (ho : o.op = .call { callee := .builtin .append, args := #[s, x], argTypes := #[t, t] }) (hd : o.dst = some d) (ht : P.underlying t = some (.slice e)) (hs : szT P e = some sz) (hb : bytesT P e = some by_) (hz : zeroT P e = some z) (hzs : z.cells.size = sz) (h0 : 0 < sz)
    (h : TakeL σ [ov σ s] [b] σ1) (hB : Base e sz b n cs) (hc : Cpy σ (ov σ x) m L) (hL : L.length = m * sz) (h63 : n + m ≤ maxLen) (hby : (n + m) * by_ ≤ 140737488355328) : SOp P o σ (put σ1 d (.ow e sz (n + m) (cs ++ L))) := by
  intro N w Sh Fs V a I hC hdk next Q hn
  obtain ⟨Fs1, Ft, I1, hrep, hle, hdt, hft, -⟩ := h.sound I (Reps.one (I.ov hC.va s))
  obtain ⟨v, e', hrep⟩ := hrep.of_one
  cases e'
  obtain ⟨xs, G, hown, hg, h1, hGF, hr⟩ := hB.sound hrep
  obtain ⟨A, c, news, q1, q2, q3, q4, q5⟩ := hc.sound I (I.ov hC.va x)
  have hbt : Bd w Ft := fun b o f => by obtain ⟨r, g⟩ := hft b o f; exact I.bnd r b o g
  have hst : Disj Ft Sh := fun b o f s => by obtain ⟨r, g⟩ := hft b o f; exact I.shd r b o g s
  have hnl : news.length = m * sz := by rw [← q5.length, hL]
  have key : ∃ v' w', (Builtin.append_ #[t, t] o.type #[a.eval s, .slice A m c]).run P w = .ok v' w' ∧ w'.ownsRow 0 e sz v' (n + m) (xs ++ news) ∧ w.grownBy w' (a.eval s).ownBlock ∧ (v'.ownBlock = (a.eval s).ownBlock ∨ v'.ownBlock = some w.heap.size) := by
    cases A with
    | none =>
      have hne : news = [] := by
        cases hnews : news with
        | nil => rfl
        | cons y ys => obtain ⟨ad, e⟩ := q3 (by rw [hnews]; simp); cases e
      have hm : m = 0 := by
        rw [hne] at hnl; simp only [List.length_nil] at hnl
        rcases Nat.eq_zero_or_pos m with h | h
        · exact h
        · have := Nat.mul_pos h h0; omega
      subst hm; subst hne
      exact ⟨_, w, run_append_zero w ht hs hown, by simpa using hown, ⟨rfl, rfl, rfl, Nat.le_refl _, fun _ _ _ => rfl⟩, .inl rfl⟩
    | some ad =>
      have hs' := hs
      have hz' := hz
      have hb' := hb
      unfold szT at hs'
      unfold zeroT at hz'
      unfold bytesT at hb'
      rw [Option.map_eq_some_iff] at hs' hb'
      rw [Option.bind_eq_some_iff] at hz'
      obtain ⟨inf, hinf, hs'⟩ := hs'
      obtain ⟨inf', hinf', hz'⟩ := hz'
      obtain ⟨inf'', hinf'', hb'⟩ := hb'
      rw [hinf] at hinf' hinf''; cases hinf'; cases hinf''
      obtain ⟨v', w', g1, g2, g3, g4, g5⟩ := run_append_own_at (P := P) w 0 t o.type e inf z sz by_ ht hinf hz' hs' hb' hzs h0 (a.eval s) n xs hown ad m c news hnl (q2 ad rfl) q4 h63 hby (Nat.zero_le _)
      exact ⟨v', w', g1, g2, g3, g5⟩
  obtain ⟨v', w', g1, g2, g3, g4⟩ := key
  obtain ⟨r1, r2, r3, r4⟩ := grown_rep (Sh := Sh) (F := Ft) (G2 := noF) h0 hown g2 g3 g4 hg h1 q4 hr q5 (Disj.no _) (fun _ _ _ f => f) (fun b o f => hbt b o (hGF b o f)) (fun _ _ f => f.elim) hst
  refine wp_value (v := v') (w' := w') ?_ ?_
  · simp only [execOp, ho, resolve, invoke, builtin, Sem.run_bind, Sem.run_pure, Result.andThen_ok, List.map_toArray, List.map_cons, List.map_nil, q1, g1]
  · refine moved (σ1 := σ1) I I1 hle hdt hft hC hdk r1 (fun b o e => (hg b e).1 o) r2 (fun b o f => ?_) (by rw [hd]; exact hn)
    rcases f with f | f | f
    · refine ⟨?_, r3 b f⟩
      rcases g4 with g4 | g4
      · rw [g4] at f; exact .inl ((hg b f).1 o)
      · rw [g4] at f; cases f; exact .inr (Nat.le_refl _)
    · exact ⟨.inl (hGF b o f), Nat.lt_of_lt_of_le (hbt b o (hGF b o f)) r1.size⟩
    · exact f.elim
theorem s_appendN {σ1 : Nat → AV} {t e : Nat} {s x : Operand} {b : AV} {d sz : Nat} (ho : o.op = .call { callee := .builtin .append, args := #[s, x], argTypes := #[t, t] }) (hd : o.dst = some d) (ht : P.underlying t = some (.slice e)) (hs : szT P e = some sz)
    (h : TakeL σ [ov σ s] [b] σ1) (hB : b = .nl ∨ ∃ n cs, b = .ow e sz n cs) (hc : ov σ x = .nl) : SOp P o σ (put σ1 d b) := by
  intro N w Sh Fs V a I hC hdk next Q hn
  obtain ⟨Fs1, Ft, I1, hrep, hle, hdt, hft, -⟩ := h.sound I (Reps.one (I.ov hC.va s))
  obtain ⟨v, e', hrep⟩ := hrep.of_one
  cases e'
  have hx := I.ov hC.va x
  rw [hc] at hx
  simp only [Rep] at hx
  have hbt : Bd w Ft := fun b o f => by obtain ⟨r, g⟩ := hft b o f; exact I.bnd r b o g
  have hBase : ∃ n cs, Base e sz b n cs := by
    rcases hB with rfl | ⟨n, cs, rfl⟩
    · exact ⟨0, [], .nl⟩
    · exact ⟨n, cs, .ow n cs⟩
  obtain ⟨n, cs, hBase⟩ := hBase
  obtain ⟨xs, G, hown, -⟩ := hBase.sound hrep
  refine wp_value (v := a.eval s) (w' := w) ?_ ?_
  · simp only [execOp, ho, resolve, invoke, builtin, Sem.run_bind, Sem.run_pure, Result.andThen_ok, List.map_toArray, List.map_cons, List.map_nil, hx, run_append_zero w ht hs hown]
  · exact moved (σ1 := σ1) I I1 hle hdt hft hC hdk (Keeps.refl noF w) (Le.no _) hrep (fun b o f => ⟨.inl f, hbt b o f⟩) (by rw [hd]; exact hn)
theorem s_appendM {σ1 : Nat → AV} {t e sz by_ n m : Nat} {s x : Operand} {b : AV} {cs L : List AV} {z : Value} {d : Nat} (ho : o.op = .call { callee := .builtin .append, args := #[s, x], argTypes := #[t, t] }) (hd : o.dst = some d) (ht : P.underlying t = some (.slice e)) (hs : szT P e = some sz) (hb : bytesT P e = some by_) (hz : zeroT P e = some z) (hzs : z.cells.size = sz) (h0 : 0 < sz)
    (h : TakeL σ [ov σ s, ov σ x] [b, .ow e sz m L] σ1) (hB : Base e sz b n cs) (h63 : n + m ≤ maxLen) (hby : (n + m) * by_ ≤ 140737488355328) : SOp P o σ (put σ1 d (.ow e sz (n + m) (cs ++ L))) := by
  intro N w Sh Fs V a I hC hdk next Q hn
  have hargs : Reps w Sh (KS w V σ) [ov σ s, ov σ x] noF [a.eval s, a.eval x] := by
    have h1 := Reps.one (I.ov hC.va x)
    simp only [Reps] at h1 ⊢
    exact ⟨_, _, noF, noF, rfl, I.ov hC.va s, h1, Disj.no _, Le.refl _, Le.refl _⟩
  obtain ⟨Fs1, Ft, I1, hrep, hle, hdt, hft, -⟩ := h.sound I hargs
  simp only [Reps] at hrep
  obtain ⟨v, vs, F1, F2, e1, hrs, ⟨vx, vs2, F3, F4, e2, hrx, -, -, l3, -⟩, hd12, l1, l2⟩ := hrep
  cases e1; cases e2
  obtain ⟨xs, G, hown, hg, h1, hGF, hr⟩ := hB.sound hrs
  simp only [Rep] at hrx
  obtain ⟨news, G2, hox, -, hgx, h2, hG2F, hr2⟩ := hrx
  have hbt : Bd w Ft := fun b o f => by obtain ⟨r, g⟩ := hft b o f; exact I.bnd r b o g
  have hst : Disj Ft Sh := fun b o f s => by obtain ⟨r, g⟩ := hft b o f; exact I.shd r b o g s
  have hG2 : Le G2 F2 := hG2F.trans l3
  have key : ∃ v' w', (Builtin.append_ #[t, t] o.type #[a.eval s, a.eval x]).run P w = .ok v' w' ∧ w'.ownsRow 0 e sz v' (n + m) (xs ++ news) ∧ w.grownBy w' (a.eval s).ownBlock ∧ (v'.ownBlock = (a.eval s).ownBlock ∨ v'.ownBlock = some w.heap.size) := by
    rcases hox.2 with ⟨hv, hm0⟩ | ⟨g0, cap0, cur0, hvx, -⟩
    · subst hm0
      have hne : news = [] := List.eq_nil_of_length_eq_zero (by simpa using hox.1)
      subst hne
      rw [hv]
      exact ⟨_, w, run_append_zero w ht hs hown, by simpa using hown, ⟨rfl, rfl, rfl, Nat.le_refl _, fun _ _ _ => rfl⟩, .inl rfl⟩
    · have hs' := hs
      have hz' := hz
      have hb' := hb
      unfold szT at hs'
      unfold zeroT at hz'
      unfold bytesT at hb'
      rw [Option.map_eq_some_iff] at hs' hb'
      rw [Option.bind_eq_some_iff] at hz'
      obtain ⟨inf, hinf, hs'⟩ := hs'
      obtain ⟨inf', hinf', hz'⟩ := hz'
      obtain ⟨inf'', hinf'', hb'⟩ := hb'
      rw [hinf] at hinf' hinf''; cases hinf'; cases hinf''
      obtain ⟨v', w', g1, g2, g3, -, g4⟩ := run_append_own_at (P := P) w 0 t o.type e inf z sz by_ ht hinf hz' hs' hb' hzs h0 (a.eval s) n xs hown ⟨g0, 0, none⟩ m cap0 news hox.1 (hox.cells (g := g0) (by rw [hvx]; rfl)) h2 h63 hby (Nat.zero_le _)
      rw [hvx]
      exact ⟨v', w', g1, g2, g3, g4⟩
  obtain ⟨v', w', g1, g2, g3, g4⟩ := key
  obtain ⟨r1, r2, r3, r4⟩ := grown_rep (Sh := Sh) (F := F1) (G2 := G2) h0 hown g2 g3 g4 hg h1 h2 hr hr2 (hd12.le hGF hG2) (fun g e o f => hd12 g o ((hg g e).1 o) (hG2 g o f)) (fun b o f => hbt b o (l1 b o (hGF b o f))) (fun b o f => hbt b o (l2 b o (hG2 b o f))) (hst.le l1 (Le.refl _))
  refine wp_value (v := v') (w' := w') ?_ ?_
  · simp only [execOp, ho, resolve, invoke, builtin, Sem.run_bind, Sem.run_pure, Result.andThen_ok, List.map_toArray, List.map_cons, List.map_nil, g1]
  · refine moved (σ1 := σ1) I I1 hle hdt hft hC hdk r1 (fun b o e => l1 b o ((hg b e).1 o)) r2 (fun b o f => ?_) (by rw [hd]; exact hn)
    rcases f with f | f | f
    · refine ⟨?_, r3 b f⟩
      rcases g4 with g4 | g4
      · rw [g4] at f; exact .inl (l1 b o ((hg b f).1 o))
      · rw [g4] at f; cases f; exact .inr (Nat.le_refl _)
    · exact ⟨.inl (l1 b o (hGF b o f)), Nat.lt_of_lt_of_le (hbt b o (l1 b o (hGF b o f))) r1.size⟩
    · exact ⟨.inl (l2 b o (hG2 b o f)), Nat.lt_of_lt_of_le (hbt b o (l2 b o (hG2 b o f))) r1.size⟩
end
end Go.Eng
