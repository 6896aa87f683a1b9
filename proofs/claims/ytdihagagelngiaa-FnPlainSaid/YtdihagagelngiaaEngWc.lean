/- The law FnPlain, walked by the engine. -/
import Derived.Test.YtdihagagelngiaaEngWb
import Derived.Test.YtdihagagelngiaaEngXt
import Derived.Test.YtdihagagelngiaaEngXp
namespace Go.Eng.C
open Go Go.Eng Go.RowKit Go.Proofs
set_option linter.unusedVariables false
set_option linter.unusedSimpArgs false
set_option maxRecDepth 10000
theorem nm_laws_FnPlain : (Try.f7.name == "runtime.NumGoroutine") = false := by decide
variable {X : FuncId → List AV → AV → List AV → Prop}
theorem VFit.tail {p : Pr} {v : Vs} {t : Tm} {l : List Tm} (h : VFit p v (t :: l)) : VFit p v l := ⟨h.vs, fun x hx => h.num x (List.mem_cons_of_mem _ hx), fun x hx => h.var x (List.mem_cons_of_mem _ hx), fun x hx => h.cell x (List.mem_cons_of_mem _ hx)⟩
/-- What a term gives is a value. -/
theorem val1_in {p : Pr} {v : Vs} {t : Tm} {l : List Tm} (w1 : 1 ≤ p.w) (w8 : p.w ≤ 8) (hv : VFit p v (t :: l)) (h0 : 0 ≤ tks t.op) (h1 : 0 ≤ t.n) {x : List Int} (hx : ∀ y ∈ x, inW p.w y) (hl : (x.length : Int) = tks t.op) : inW p.w (val1 p.w v t x).1 := by
  obtain ⟨hsz, hsz8⟩ := sizeW_bd w8
  have hz : inW p.w 0 := ⟨Int.le_refl 0, hsz⟩
  have g : ∀ j, j < x.length → inW p.w (x.getD j 0) := fun j hj => getD_in (q := inW p.w) hx hj
  have hop : t.op = 0 ∨ t.op = 1 ∨ t.op = 2 ∨ (t.op = 3 ∨ t.op = 4) ∨ t.op = 17 ∨ (5 ≤ t.op ∧ t.op ≤ 16) := by unfold tks at h0; omega
  rcases hop with h | h | h | h | h | h
  · simp only [val1]; rw [if_pos h]; exact ⟨h1, hv.num t (by simp) h⟩
  · simp only [val1]; rw [if_neg (by omega), if_pos h]
    have := hv.var t (by simp) h
    exact getD_in (q := inW p.w) hv.vs (by omega)
  · have hk : tks t.op = 1 := by rw [h]; rfl
    obtain ⟨c1, c2, c3, c4⟩ := hv.cell t (by simp) h h1
    simp only [val1]; rw [if_neg (by omega), if_neg (by omega), if_pos h]
    have h2 := g 0 (by omega)
    split
    · have h3 := h2.1
      exact getD_in (q := inW p.w) c4 (by omega)
    · exact hz
  · have hk : tks t.op = 1 := by rcases h with h | h <;> rw [h] <;> rfl
    simp only [val1]; rw [if_neg (by omega), if_neg (by omega), if_neg (by omega), if_pos h]
    have h2 := g 0 (by omega)
    exact tn_bd8 w8 h h2.1 h2.2
  · have hk : tks t.op = 3 := by rw [h]; rfl
    simp only [val1]; rw [if_neg (by omega), if_neg (by omega), if_neg (by omega), if_neg (by omega), if_pos h]
    dsimp only
    split
    · exact g 1 (by omega)
    · exact g 2 (by omega)
  · have hk : tks t.op = 2 := by unfold tks; rw [if_neg (by omega), if_neg (by omega), if_pos h]
    simp only [val1]; rw [if_neg (by omega), if_neg (by omega), if_neg (by omega), if_neg (by omega), if_neg (by omega)]
    split
    · exact hz
    · have h2 := g 0 (by omega)
      have h3 := g 1 (by omega)
      exact jn_bd8 w8 w1 h.1 h.2 h2.1 h2.2 h3.1 h3.2
theorem rp_in {p : Pr} {v : Vs} (w1 : 1 ≤ p.w) (w8 : p.w ≤ 8) : ∀ (l : List Tm) (s : List Int), VFit p v l → hgt l s.length = some 1 → (∀ x ∈ s, inW p.w x) → inW p.w (rp p.w v l s).1
  | [], s, hv, hh, hs => by
    simp only [hgt, Option.some.injEq] at hh
    exact getD_in (q := inW p.w) hs (by omega)
  | t :: l, s, hv, hh, hs => by
    simp only [hgt] at hh
    split at hh
    case isFalse => cases hh
    rename_i htk
    obtain ⟨⟨t0, t1, t2, t3⟩, htk⟩ := htk
    have htr := tks_range t.op
    simp only [rp]
    have hlen : ((s.drop (s.length - (tks t.op).toNat)).length : Int) = tks t.op := by simp; omega
    have hin := val1_in w1 w8 hv t0 t1 (x := s.drop (s.length - (tks t.op).toNat)) (fun y hy => hs y (List.mem_of_mem_drop hy)) hlen
    refine rp_in w1 w8 l _ hv.tail ?_ (fun x hx => ?_)
    · rw [← hh]; congr 1; simp; omega
    · rcases List.mem_append.1 hx with h | h
      · exact hs x (List.mem_of_mem_take h)
      · simp only [List.mem_singleton] at h; subst h; exact hin
theorem rp_bd {p : Pr} {v : Vs} {e : List Tm} (w1 : 1 ≤ p.w) (w8 : p.w ≤ 8) (he : expOk e = true) (hv : VFit p v e) : inW p.w (rp p.w v e []).1 := by
  simp only [expOk, Bool.and_eq_true, decide_eq_true_eq] at he
  exact rp_in w1 w8 e [] hv he.2 (fun x hx => by simp at hx)
theorem Drawn.fok {p : Pr} (hp : Drawn p) : FOk p := by
  have := hp.l; have := hp.s; have := hp.t; have := hp.a
  exact ⟨by omega, by omega, by omega, by omega, by omega, by unfold insN; omega⟩
theorem Drawn.fn {p : Pr} (hp : Drawn p) : FN p := by
  have h1 := hp.l; have h2 := hp.s; have h3 := hp.t; have h4 := hp.a
  refine ⟨?_, by unfold varsN insN; omega, by omega⟩
  exact sizeW4 (by have := hp.w; omega) (by have := hp.w; omega)
theorem FG.reck {p : Pr} {e : List Tm} (hg : FG p e) (hp : Drawn p) (hl : e.length ≤ 3000) : reckOk p e := ⟨(hg hp.fn).1.ok hl, (hg hp.fn).2⟩
set_option maxHeartbeats 40000000 in
theorem fnPlain (bs : List Int) (hb : ∀ b ∈ bs, 0 ≤ b ∧ b ≤ 255) : Ev Try.prog X (.fn 7 [.im bs.length (encL eU8 bs)] (bl true) [.dead]) := by
  refine Ev.fnW (env := [(0, .im bs.length (encL eU8 bs))]) Try.func7 rfl nm_laws_FnPlain rfl rfl (by kernel_rfl) (.cons rfl .nil) ?_
  refine go3 ?_
  refine WO.callB rfl rfl rfl (big bs.length (encL eU8 bs)) rfl (fun hl => ?_) (fun hl => ?_)
  · refine go3 ?_
    exact retV rfl rfl rfl rfl
  refine go3 ?_
  obtain ⟨res, fin, hM, h, rfl, rfl⟩ := roll (X := X) bs 7 (by omega)
  refine WO.call rfl rfl rfl hM rfl rfl ?_
  clear hM
  refine go3 ?_
  have hD : DOk bs 0 := ⟨hb, by omega, by omega, by omega⟩
  obtain ⟨res, fin, hM, p, i', h', rfl, rfl, hD, hp⟩ := program (X := X) bs 0 h hD
  refine WO.callD rfl rfl rfl rfl rfl hM rfl rfl rfl rfl ?_
  clear hM
  refine go3 ?_
  obtain ⟨r1, r2, r3, r4, r5⟩ := hp.ok.r
  obtain ⟨res, fin, hM, v, i', h', rfl, rfl, hD, hv⟩ := surroundings (X := X) bs p i' h' hp.w hp.b r1 r2 ⟨r3, r5⟩ hD
  refine WO.callD rfl rfl rfl rfl rfl hM rfl rfl rfl rfl ?_
  clear hM
  refine go3 ?_
  obtain ⟨res, fin, hM, e, i', h', rfl, rfl, hD, hel, heo, hg⟩ := formula (X := X) bs p hp.fok 3 i' h' (by decide) hD
  refine WO.callDH rfl rfl rfl rfl rfl hM (encL_pl _) rfl rfl rfl ?_
  clear hM heo
  have he := hg.reck hp (by omega)
  have hbd := rp_bd hp.ok.w0 hp.ok.w8 he.1 (hv.fit he)
  have c1 := implValueIn (X := X) p v e hp.ok hp.b hv he
  have c2 := implPlainIn (X := X) p v e hp.ok hp.b hv he
  have c3 := specValueIn (X := X) p v e hp.ok hp.b hv he
  have c4 := specPlainIn (X := X) p v e hp.ok hp.b hv he
  have c5 := implEnvOk (X := X) p v hp.ok hp.b hv
  obtain ⟨x, c, y, e1, e2, hx⟩ : ∃ x c y, rk p.w v e [] = (x, c) ∧ (rp p.w v e []).1 = y ∧ (if c = 0 then x = y else x = 0) := by
    refine ⟨_, _, _, rfl, rfl, ?_⟩
    rw [rk_rp]
    by_cases hc : (rp p.w v e []).2 = 0
    · simp [hc]
    · simp [hc]
  rw [e1] at c1 c3
  rw [e2] at c2 c4 hbd
  dsimp only at c1 c3
  obtain ⟨hb0, hb1⟩ := hbd
  have hs := sizeW_bd hp.ok.w8
  refine go3 ?_
  refine WO.call rfl rfl rfl c1 rfl rfl ?_
  refine go3 ?_
  refine WO.call rfl rfl rfl c2 rfl rfl ?_
  refine go3 ?_
  refine WO.call rfl rfl rfl c3 rfl rfl ?_
  refine go3 ?_
  refine WO.shl (c := sizeW p.w) rfl rfl rfl (by have := hp.ok.w0; omega) (shl_one hp.ok.w0 hp.ok.w8) rfl ?_
  refine go3 ?_
  refine WO.call rfl rfl rfl c4 rfl rfl ?_
  refine go3 ?_
  refine WO.call rfl rfl rfl c5 rfl rfl ?_
  refine go3 ?_
  by_cases hc : c = 0
  · rw [if_pos hc] at hx
    refine go3 ?_
    exact retV rfl rfl rfl rfl
  · rw [if_neg hc] at hx
    refine go3 ?_
    exact retV rfl rfl rfl rfl
theorem fnPlainW (bs : List Int) (h : bs.length ≤ 9223372036854775807 ∧ ∀ b ∈ bs, (Lit.int .u8 b).wf = true) : Ev Try.prog X (.fn 7 [.im bs.length (encL eU8 bs)] (bl true) [.dead]) := fnPlain bs (wf_u8 h)
end Go.Eng.C
