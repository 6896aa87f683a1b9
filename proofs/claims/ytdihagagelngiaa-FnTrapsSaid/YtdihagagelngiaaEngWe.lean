/- The law FnTraps, walked by the engine. -/
import Derived.Test.YtdihagagelngiaaEngWd
import Derived.Test.YtdihagagelngiaaEngXs
import Derived.Test.YtdihagagelngiaaEngXt
import Derived.Test.YtdihagagelngiaaEngXp
namespace Go.Eng.C
open Go Go.Eng Go.RowKit Go.Proofs
set_option linter.unusedVariables false
set_option linter.unusedSimpArgs false
set_option maxRecDepth 10000
theorem nm_laws_FnTraps : (Try.f6.name == "runtime.NumGoroutine") = false := by decide
variable {X : FuncId → List AV → AV → List AV → Prop}
theorem Drawn.fok' {p : Pr} (hp : Drawn p) : FOk p := by
  have := hp.l; have := hp.s; have := hp.t; have := hp.a
  exact ⟨by omega, by omega, by omega, by omega, by omega, by unfold insN; omega⟩
theorem Drawn.fn' {p : Pr} (hp : Drawn p) : FN p := by
  have h1 := hp.l; have h2 := hp.s; have h3 := hp.t; have h4 := hp.a
  refine ⟨?_, by unfold varsN insN; omega, by omega⟩
  exact sizeW4 (by have := hp.w; omega) (by have := hp.w; omega)
/-- A quotient, or a rest, by a number. -/
theorem by_num {p : Pr} (hp : Drawn p) (op n : Int) (ho : op = 8 ∨ op = 9) (h0 : 0 ≤ n) (h4 : n < 4) : mayOk p ([⟨1, 0⟩] ++ [⟨0, n⟩] ++ [⟨op, 0⟩]) := by
  have hv : varsN p = 5 := by unfold varsN insN; rw [hp.l, hp.s, hp.t]; rfl
  have hw := hp.fn'.w
  refine ⟨by simp, ⟨(Lifts.two op (Lifts.var 0 (by omega) (by omega)) (Lifts.num n h0 (by omega)) (by omega) (by omega)).ok (by simp), fun t ht => ?_⟩, fun t ht => ?_⟩
  · simp only [List.cons_append, List.nil_append, List.mem_cons, List.not_mem_nil, or_false] at ht
    rcases ht with rfl | rfl | rfl
    · exact ⟨by simp, fun _ => by dsimp only; omega, by simp⟩
    · exact ⟨fun _ => by dsimp only; omega, by simp, by simp⟩
    · exact nameOk_op (by omega)
  · simp only [List.cons_append, List.nil_append, List.mem_cons, List.not_mem_nil, or_false] at ht
    rcases ht with rfl | rfl | rfl
    · simp
    · simp
    · dsimp only; omega
theorem EOk.rows {p : Pr} {v : Vs} (hv : EOk p v) (n : Int) (h0 : 0 ≤ n) (h : n < (p.arrs.length : Int)) : ((v.cells.getD n.toNat []).length : Int) = p.arrs.getD n.toNat 0 := (hv.c n.toNat (by omega)).1
set_option maxHeartbeats 40000000 in
theorem fnTraps (bs : List Int) (hb : ∀ b ∈ bs, 0 ≤ b ∧ b ≤ 255) : Ev Try.prog X (.fn 6 [.im bs.length (encL eU8 bs)] (bl true) [.dead]) := by
  refine Ev.fnW (env := [(0, .im bs.length (encL eU8 bs))]) Try.func6 rfl nm_laws_FnTraps rfl rfl (by kernel_rfl) (.cons rfl .nil) ?_
  refine go3 ?_
  refine WO.callB rfl rfl rfl (big bs.length (encL eU8 bs)) rfl (fun hl => ?_) (fun hl => ?_)
  · refine go3 ?_
    exact retV rfl rfl rfl rfl
  refine go3 ?_
  obtain ⟨res, fin, hM, h, rfl, rfl⟩ := roll (X := X) bs 15 (by omega)
  refine WO.call rfl rfl rfl hM rfl rfl ?_
  clear hM
  refine go3 ?_
  have hD : DOk bs 0 := ⟨hb, by omega, by omega, by omega⟩
  obtain ⟨res, fin, hM, p, i', h', rfl, rfl, hD, hp⟩ := program (X := X) bs 0 h hD
  refine WO.callD rfl rfl rfl rfl rfl hM rfl rfl rfl rfl ?_
  clear hM
  refine go3 ?_
  obtain ⟨r1, r2, r3, r4, r5⟩ := hp.ok.r
  obtain ⟨res, fin, hM, e, i', h', rfl, rfl, hD, hel, heo, hg⟩ := formula (X := X) bs p hp.fok' 2 i' h' (by decide) hD
  refine WO.callDH rfl rfl rfl rfl rfl hM (encL_pl _) rfl rfl rfl ?_
  clear hM
  have he : reckOk p e := ⟨(hg hp.fn').1.ok (by omega), (hg hp.fn').2⟩
  have hm : mayOk p e := ⟨by omega, he, fun t ht => by have := heo t ht; omega⟩
  obtain ⟨m, hmm⟩ : ∃ m : Bool, m = true ↔ MayT p e := by
    by_cases h : MayT p e
    · exact ⟨true, by simp [h]⟩
    · exact ⟨false, by simp [h]⟩
  refine go3 ?_
  refine WO.call rfl rfl rfl (implMayTrap p e hp.b hp.ok hm hmm) rfl rfl ?_
  refine go3 ?_
  refine WO.call rfl rfl rfl (specMayTrap p e hp.b hp.ok hm hmm) rfl rfl ?_
  refine WO.binT (c := false) rfl rfl rfl rfl (by simp [Eng.binT]) rfl ?_
  refine go3 ?_
  refine WC.loopS (S := Nat × Int × Int) (fun s => [(3, dice bs s.2.1 s.2.2), (4, .op (prR p)), (5, .im e.length (encL tm e)), (6, bl m), (7, i64 s.1)]) (fun s => s.1 ≤ 6 ∧ DOk bs s.2.1) (fun s => 6 - s.1) (0, i', h') (.cons rfl (.cons rfl (.cons rfl (.cons rfl (.cons rfl .nil))))) ⟨by simp, hD⟩ ?_
  clear hD
  rintro ⟨k, i, h⟩ ⟨g1, hD⟩
  dsimp only at g1 hD ⊢
  refine go3 ?_
  refine WO.cmp rfl rfl rfl rfl rfl (fun h3 => ?_) (fun h3 => ?_)
  · obtain ⟨res, fin, hM, v, i', h', rfl, rfl, hD, hv⟩ := surroundings (X := X) bs p i h hp.w hp.b r1 r2 ⟨r3, r5⟩ hD
    have hno : ¬ MayT p e → (rk p.w v e []).2 = 0 := no_trap hv.rows he.1 (fun t ht h => (he.2 t ht).2.2 h)
    refine go3 ?_
    refine WO.callD rfl rfl rfl rfl rfl hM rfl rfl rfl rfl ?_
    clear hM
    refine go3 ?_
    refine WO.call rfl rfl rfl (implValueIn p v e hp.ok hp.b hv he) rfl rfl ?_
    generalize (rk p.w v e []).2 = c at hno ⊢
    generalize (rk p.w v e []).1 = x
    refine go3 ?_
    refine WO.cmp rfl rfl rfl rfl rfl (fun hc => ?_) (fun hc => ?_)
    · have : m = true := by
        by_cases hM : MayT p e
        · exact hmm.2 hM
        · exact absurd (hno hM) hc
      subst this
      refine go3 ?_
      exact lpK.mk (k + 1, i', h') (.cons rfl (.cons rfl (.cons rfl (.cons rfl (.cons rfl .nil))))) ⟨by dsimp only; omega, hD⟩ (by dsimp only; omega)
    · refine go3 ?_
      exact lpK.mk (k + 1, i', h') (.cons rfl (.cons rfl (.cons rfl (.cons rfl (.cons rfl .nil))))) ⟨by dsimp only; omega, hD⟩ (by dsimp only; omega)
  · refine go3 ?_
    refine WO.keep (e' := [(4, .op (prR p))]) (.cons rfl .nil) ?_
    refine WO.call rfl rfl rfl (variable_ 0) rfl rfl ?_
    refine WO.call rfl rfl rfl (number_ 0) rfl rfl ?_
    refine WO.callF rfl (.cons (.plain _ rfl) (.cons (frz1 rfl rfl) (.cons (frz1 rfl rfl) .nil))) (two 8 [⟨1, 0⟩] [⟨0, 0⟩] (by simp) (by simp)) rfl rfl rfl ?_
    refine WO.hard (r := 51) (p := []) (x := .ow 53 2 3 (encL tm ([⟨1, 0⟩] ++ [⟨0, 0⟩] ++ [⟨8, 0⟩]))) (y := .im 3 (encL tm ([⟨1, 0⟩] ++ [⟨0, 0⟩] ++ [⟨8, 0⟩]))) rfl rfl rfl ?_
    refine go3 ?_
    refine WC.regionDd ⟨[[], [], [0, 1], [0, 1, 2], [0, 1, 2, 3], [0, 1, 2, 3], [0, 1, 2, 3, 5], [0, 1, 2, 3, 5, 6], [0, 1, 2, 3, 4, 5, 6, 7], [0, 1, 2, 3, 4, 5, 6, 7, 8], [0, 1, 2, 3, 4, 5, 6, 7, 8, 9], [0, 1, 2, 3, 4, 5, 6, 7, 8, 9, 10]], [0, 1, 3, 4, 5, 6, 7, 9, 10], [], [52, 53, 55, 56, 57, 58, 59, 61, 62], [0, 1, 2, 3, 4, 5, 6, 7, 8, 9, 10, 11], [([53], [53], false), ([52], [52], false), ([], [], false), ([], [], false), ([57, 58, 59], [57, 58, 59], false), ([56], [56], false), ([56], [56], false), ([56], [56], false), ([], [], false), ([], [], false), ([], [], false), ([], [], false)]⟩ (by kernel_rfl) ?_
    refine go3 ?_
    refine WO.call rfl rfl rfl (implMayTrap p ([⟨1, 0⟩] ++ [⟨0, 0⟩] ++ [⟨8, 0⟩]) hp.b hp.ok (by_num hp 8 0 (.inl rfl) (by decide) (by decide)) (r := true) ⟨fun _ => ⟨1, by decide, .inl ⟨.inl rfl, .inr rfl⟩⟩, fun _ => rfl⟩) rfl rfl ?_
    refine go3 ?_
    refine WD.call rfl rfl rfl rfl rfl rfl rfl (variable_ 0) rfl rfl rfl ?_
    refine go3 ?_
    refine WD.call rfl rfl rfl rfl rfl rfl rfl (number_ 2) rfl rfl rfl ?_
    refine go3 ?_
    first
    | refine WD.q rfl rfl rfl rfl rfl (QE.callF (.cons (.plain _ rfl) (.cons (frz1 rfl rfl) (.cons (frz1 rfl rfl) .nil))) (two 9 [⟨1, 0⟩] [⟨0, 2⟩] (by simp) (by simp)) rfl) rfl rfl rfl ?_
    | refine WO.callF rfl (.cons (.plain _ rfl) (.cons (frz1 rfl rfl) (.cons (frz1 rfl rfl) .nil))) (two 9 [⟨1, 0⟩] [⟨0, 2⟩] (by simp) (by simp)) rfl rfl rfl ?_
    refine go3 ?_
    refine WO.callF rfl (.ag (FrzL.plains rfl) (.cons (frz1 rfl rfl) .nil)) (implMayTrap p ([⟨1, 0⟩] ++ [⟨0, 2⟩] ++ [⟨9, 0⟩]) hp.b hp.ok (by_num hp 9 2 (.inr rfl) (by decide) (by decide)) (r := false) ⟨fun h => by simp at h, fun ⟨i, h1, h2⟩ => by
      have h1 : i + 1 < 3 := h1
      have : i = 0 ∨ i = 1 := by omega
      rcases this with rfl | rfl
      · rcases h2 with h2 | h2
        · exact absurd (show (0 : Int) = 8 ∨ (0 : Int) = 9 from h2.1) (by omega)
        · exact absurd (show (0 : Int) = 2 from h2.1) (by omega)
      · rcases h2 with h2 | h2
        · exact absurd (show (0 : Int) ≠ 0 ∨ (2 : Int) = 0 from h2.2) (by omega)
        · exact absurd (show (9 : Int) = 2 from h2.1) (by omega)⟩) rfl rfl rfl ?_
    refine go3 ?_
    exact retV rfl rfl rfl rfl
theorem fnTrapsW (bs : List Int) (h : bs.length ≤ 9223372036854775807 ∧ ∀ b ∈ bs, (Lit.int .u8 b).wf = true) : Ev Try.prog X (.fn 6 [.im bs.length (encL eU8 bs)] (bl true) [.dead]) := fnTraps bs (wf_u8 h)
end Go.Eng.C
