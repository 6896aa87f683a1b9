/- Contracts of functions, by the engine: folding, of the program: an expression; Folded. -/
import Derived.Test.YtbhdobjjhkkpkaaEngFr
namespace Go.Eng.C
open Go Go.Eng Go.RowKit Go.Proofs
set_option linter.unusedVariables false
set_option linter.unusedSimpArgs false
set_option maxRecDepth 10000
variable {X : FuncId → List AV → AV → List AV → Prop}
theorem nm_impl_foldedExp : (Try.f97.name == "runtime.NumGoroutine") = false := by decide
theorem nm_impl_Folded : (Try.f33.name == "runtime.NumGoroutine") = false := by decide
theorem vt_in {p : Pr} (w1 : 1 ≤ p.w) (w8 : p.w ≤ 8) {e : List Tm} (hv : VFit p nov e) (hh : hgt e 0 = some 1) : inW p.w (rp p.w nov e []).1 := rpIn w1 w8 e [] hv (by simpa using hh) (fun x hx => by simp at hx)
/-- A step of the pile keeps numbers right, and the texts short. -/
theorem stk_ok {p : Pr} (w1 : 1 ≤ p.w) (w8 : p.w ≤ 8) {S : List (List Tm)} {t : Tm} (ht : tmOk t) (hk : tks t.op ≤ (S.length : Int)) (hN : NmS p.w S) (htn : t.op = 0 → t.n < sizeW p.w) : NmS p.w (stk p.w S t) ∧ (stk p.w S t).flatten.length ≤ S.flatten.length + 1 ∧ ((stk p.w S t).length : Int) = S.length + (1 - tks t.op) := by
  have hk0 := ht.1
  obtain ⟨j, hj⟩ : ∃ j : Nat, j = S.length - (tks t.op).toNat := ⟨_, rfl⟩
  have hstk : stk p.w S t = S.take j ++ [cl p.w t (S.drop j)] := by unfold stk; rw [← hj]
  have hsp : S.flatten = (S.take j).flatten ++ (S.drop j).flatten := by rw [← List.flatten_append, List.take_append_drop]
  have hl : ((S.drop j).length : Int) = tks t.op := by rw [List.length_drop]; omega
  have hcl : NmS p.w [cl p.w t (S.drop j)] ∧ (cl p.w t (S.drop j)).length ≤ (S.drop j).flatten.length + 1 := by
    unfold cl
    split
    · rename_i h
      refine ⟨fun s hs u hu h0 => ?_, by simp⟩
      simp only [List.mem_singleton] at hs; subst hs
      simp only [List.mem_singleton] at hu; subst hu
      have hb1 : ∀ x ∈ (S.drop j).map nv, 0 ≤ x ∧ x < sizeW p.w := fun x hx => by
        obtain ⟨s, hs, rfl⟩ := List.mem_map.1 hx
        obtain ⟨g1, g2⟩ := h.1 s hs
        obtain ⟨u, rfl⟩ : ∃ u, s = [u] := List.length_eq_one_iff.1 g1
        exact hN _ (List.mem_of_mem_drop hs) u (by simp) g2
      have hx := nums_of h.1
      have h1 := vt_in (p := p) w1 w8 (e := (S.drop j).flatten ++ [t]) (nov_fit (fun u hu hz => by
          rw [hx] at hu
          rcases List.mem_append.1 hu with h2 | h2
          · obtain ⟨x, hx, rfl⟩ := List.mem_map.1 h2; exact (hb1 x hx).2
          · simp only [List.mem_singleton] at h2; subst h2; exact htn hz) (by
          rw [hx, List.all_append, Bool.and_eq_true]
          exact ⟨by rw [List.all_eq_true]; intro u hu; obtain ⟨x, hx, rfl⟩ := List.mem_map.1 hu; rfl, by simp [h.2.1]⟩)) (by
          rw [hx, hgt_nums w8 _ _ 0 (by omega) hb1]
          simp only [hgt]
          rw [List.length_map, if_pos ⟨ht, by omega⟩]
          congr 1; omega)
      exact ⟨h1.1, h1.2⟩
    · refine ⟨fun s hs u hu h0 => ?_, by simp⟩
      simp only [List.mem_singleton] at hs; subst hs
      rcases List.mem_append.1 hu with h2 | h2
      · obtain ⟨s, hs, hu2⟩ := List.mem_flatten.1 h2
        exact hN s (List.mem_of_mem_drop hs) u hu2 h0
      · simp only [List.mem_singleton] at h2; subst h2; exact ⟨ht.2.1, htn h0⟩
  rw [hstk]
  refine ⟨fun s hs => ?_, ?_, ?_⟩
  · rcases List.mem_append.1 hs with h | h
    · exact hN s (List.mem_of_mem_take h)
    · exact hcl.1 s h
  · rw [List.flatten_append, List.length_append, hsp, List.length_append]
    have := hcl.2
    simp only [List.flatten_cons, List.flatten_nil, List.append_nil]; omega
  · rw [List.length_append, List.length_take, List.length_singleton]; omega
set_option maxHeartbeats 8000000 in
theorem foldedExp (p : Pr) (a : Tr) (hB : PB p) (w1 : 1 ≤ p.w) (w8 : p.w ≤ 8) (ho : a.Ok) (hl : a.flat.length ≤ 3000) (hN : ∀ t ∈ a.flat, t.op = 0 → t.n < sizeW p.w) : Ev Try.prog X (.fn 97 [.ip (prR p), .im a.flat.length (encL tm a.flat)] (.ow 93 2 (a.fold p.w).length (encL tm (a.fold p.w))) [.dead, .dead]) := by
  have hh := tree_hgt a ho 0 (by omega)
  have hrun := run_tr p.w a ho []
  obtain ⟨e, he⟩ : ∃ e, e = a.flat := ⟨_, rfl⟩
  rw [← he] at hh hrun hl hN ⊢
  refine Ev.fnW (env := [(0, .ip (prR p)), (1, .im e.length (encL tm e))]) Try.func97 rfl nm_impl_foldedExp rfl rfl (by kernel_rfl) (.cons rfl (.cons rfl .nil)) ?_
  refine go3 ?_
  refine WO.bld (cs := [.ip (prR p), .nl, .nl]) rfl rfl rfl rfl ?_
  refine go3 ?_
  refine WC.castAt (r := 5) (p := [1]) (y := .op [.ip (prR p), .ow 93 2 0 [], .nl]) 93 2 (by decide) rfl rfl ?_
  refine WC.castAt (r := 5) (p := [2]) (y := .op (fo p [])) 3 1 (by decide) rfl rfl ?_
  refine WC.loopS (S := Nat × List (List Tm)) (fun u => [(5, .op (fo p u.2)), (10, .im e.length (encL tm e)), (11, i64 e.length), (12, i64 u.1)]) (fun u => u.1 ≤ e.length ∧ (e.drop u.1).foldl (stk p.w) u.2 = [a.fold p.w] ∧ NmS p.w u.2 ∧ u.2.flatten.length ≤ u.1 ∧ u.2.length ≤ u.1 ∧ hgt (e.drop u.1) (u.2.length : Int) = some 1) (fun u => e.length - u.1) (0, []) (.cons rfl (.cons rfl (.cons rfl (.cons rfl .nil)))) ⟨Nat.zero_le _, by simpa using hrun, fun s hs => by simp at hs, by simp, by simp, by simpa using hh⟩ ?_
  rintro ⟨i, S⟩ ⟨g1, g2, g3, g4, g5, g6⟩
  dsimp only at g1 g2 g3 g4 g5 g6 ⊢
  refine go3 ?_
  refine WO.cmp rfl rfl rfl rfl rfl (fun h3 => ?_) (fun h3 => ?_)
  · have hi : i < e.length := by omega
    have hmem : e.getD i zt ∈ e := by simp [List.getD_eq_getElem?_getD, hi]
    rw [drop_getD hi zt] at g2 g6
    rw [hgt] at g6
    split at g6
    case isFalse => cases g6
    rename_i hok
    rw [List.foldl_cons] at g2
    have hq := stk_ok w1 w8 hok.1 hok.2 g3 (hN _ hmem)
    have hkr := tks_range (e.getD i zt).op
    have cT := take (X := X) p S (e.getD i zt) hB w1 w8 hok.1 hok.2 g3 (hN _ hmem) (by omega) (by omega)
    rw [← hq.2.2] at g6
    have hlen : (stk p.w S (e.getD i zt)).length ≤ i + 1 := by have := hq.2.2; have := hok.1.1; omega
    refine go3 ?_
    refine WO.ixN (f := tm) zt rfl rfl rfl hi rfl ?_
    generalize e.getD i zt = t at *
    generalize stk p.w S t = S' at *
    refine go3 ?_
    refine WO.callD (xs := [.tmp 16]) rfl rfl rfl rfl rfl cT rfl rfl rfl rfl ?_
    refine go3 ?_
    exact lpK.mk (i + 1, S') (.cons rfl (.cons rfl (.cons rfl (.cons rfl .nil)))) ⟨hi, g2, hq.1, by have := hq.2.1; dsimp only; omega, hlen, g6⟩ (show e.length - (i + 1) < e.length - i by omega)
  · have hie : i = e.length := by omega
    subst hie
    rw [List.drop_length] at g2
    simp only [List.foldl_nil] at g2
    subst g2
    have hfl : [a.fold p.w].flatten = a.fold p.w := by simp
    rw [show fo p [a.fold p.w] = [.ip (prR p), .ow 93 2 (a.fold p.w).length (encL tm (a.fold p.w)), .ow 3 1 1 [i64 0]] by unfold fo; rw [hfl]; rfl]
    refine go3 ?_
    refine WO.q rfl (QE.ldOw rfl rfl rfl) rfl rfl ?_
    refine WO.takeP rfl (.assign _) rfl rfl (encL_length _) rfl rfl rfl ?_
    refine go3 ?_
    exact retO rfl rfl (encL_length _) rfl rfl rfl
theorem implFolded (p : Pr) (a : Tr) (hB : PB p) (hp : PrOk p) (ho : a.Ok) (he : mayOk p a.flat) (hN : ∀ t ∈ a.flat, t.op = 0 → t.n < sizeW p.w) : Ev Try.prog X (.fn 33 [.ag (prR p), .im a.flat.length (encL tm a.flat)] (.ow 93 2 (a.fold p.w).length (encL tm (a.fold p.w))) [.dead, .dead]) := by
  have hl : a.flat.length ≤ 3000 := by have := he.2.1.1; simp only [expOk, Bool.and_eq_true, decide_eq_true_eq] at this; exact this.1
  refine Ev.fnW (env := [(0, .ag (prR p)), (1, .im a.flat.length (encL tm a.flat))]) Try.func33 rfl nm_impl_Folded rfl rfl (by kernel_rfl) (.cons rfl (.cons rfl .nil)) ?_
  refine go3 ?_
  refine WO.call rfl rfl rfl (implProgOk p hB (r := true) (by simp [hp])) rfl rfl ?_
  refine WO.hard (r := 2) (p := []) (x := .op (prR p)) (y := .ip (prR p)) rfl rfl rfl ?_
  refine go3 ?_
  refine WO.call rfl rfl rfl (mayStand p hp.w0 hp.w8 hB hp.r.1 hp.r.2.1 a.flat (by omega) (r := true) (by simp [he])) rfl rfl ?_
  refine go3 ?_
  refine WO.call rfl rfl rfl (foldedExp p a hB hp.w0 hp.w8 ho hl hN) rfl rfl ?_
  refine go3 ?_
  exact retO rfl rfl (encL_length _) rfl rfl rfl
theorem implFoldedN (p : Pr) (e : List Tm) (hB : PB p) (hl : e.length ≤ 1048576) (h : ¬ (PrOk p ∧ mayOk p e)) : Ev Try.prog X (.fn 33 [.ag (prR p), .im e.length (encL tm e)] (.ow 93 2 e.length (encL tm e)) [.dead, .dead]) := by
  refine Ev.fnW (env := [(0, .ag (prR p)), (1, .im e.length (encL tm e))]) Try.func33 rfl nm_impl_Folded rfl rfl (by kernel_rfl) (.cons rfl (.cons rfl .nil)) ?_
  refine go3 ?_
  by_cases hp : PrOk p
  · refine WO.call rfl rfl rfl (implProgOk p hB (r := true) (by simp [hp])) rfl rfl ?_
    refine WO.hard (r := 2) (p := []) (x := .op (prR p)) (y := .ip (prR p)) rfl rfl rfl ?_
    refine go3 ?_
    refine WO.call rfl rfl rfl (mayStand p hp.w0 hp.w8 hB hp.r.1 hp.r.2.1 e (by omega) (r := false) ⟨fun h => by simp at h, fun h2 => absurd ⟨hp, h2⟩ h⟩) rfl rfl ?_
    refine go3 ?_
    refine WO.call rfl rfl rfl (ownTerms e hl) rfl rfl ?_
    refine go3 ?_
    exact retO rfl rfl (encL_length _) rfl rfl rfl
  · refine WO.call rfl rfl rfl (implProgOk p hB (r := false) ⟨fun h => by simp at h, fun h2 => absurd h2 hp⟩) rfl rfl ?_
    refine go3 ?_
    refine WO.call rfl rfl rfl (ownTerms e hl) rfl rfl ?_
    refine go3 ?_
    exact retO rfl rfl (encL_length _) rfl rfl rfl
end Go.Eng.C
