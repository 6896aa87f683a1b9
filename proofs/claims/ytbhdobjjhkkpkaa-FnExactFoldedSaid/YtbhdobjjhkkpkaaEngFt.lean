/- The law FnExactFolded, walked by the engine. -/
import Derived.Test.YtbhdobjjhkkpkaaEngFs
import Derived.Test.YtbhdobjjhkkpkaaEngV6
import Derived.Test.YtbhdobjjhkkpkaaEngOq
namespace Go.Eng.C
open Go Go.Eng Go.RowKit Go.Proofs
set_option linter.unusedVariables false
set_option linter.unusedSimpArgs false
set_option maxRecDepth 10000
variable {X : FuncId → List AV → AV → List AV → Prop}
theorem nm_laws_FnExactFolded : (Try.f6.name == "runtime.NumGoroutine") = false := by decide
theorem held_markS : ∀ (l : List Tm) (m : Int), heldS (markS l m) m = m + 2 * l.length
  | [], m => by simp [markS, heldS]
  | t :: l, m => by
    simp only [markS, heldS, ne_eq, not_true_eq_false, if_false, held_markS l, List.length_cons]
    omega
theorem noIm_prM2 (p : Pr) (m : Int) : noIm (.ag (prM p m)) = true := by simp only [noIm, prM, noImL, noIm_inp', noIm_eI', noIm_stO, Bool.and_self]
theorem foldBoth (p : Pr) (e : List Tm) (hB : PB p) (hl : e.length ≤ 1048576) : ∃ f : List Tm, f.length ≤ 1048576 ∧ Ev Try.prog X (.fn 32 [.ag (prR p), .im e.length (encL tm e)] (.ow 93 2 f.length (encL tm f)) [.dead, .dead]) ∧ Ev Try.prog X (.fn 33 [.ag (prR p), .im e.length (encL tm e)] (.ow 93 2 f.length (encL tm f)) [.dead, .dead]) := by
  by_cases h : PrOk p ∧ mayOk p e
  · obtain ⟨hp, he⟩ := h
    obtain ⟨a, ho, rfl, h3⟩ := exp_tree he.2.1.1
    have hN : ∀ t ∈ a.flat, t.op = 0 → t.n < sizeW p.w := fun t ht h0 => (he.2.1.2 t ht).1 h0
    have := fold_len p.w a
    exact ⟨a.fold p.w, by omega, specFolded p a hB hp ho he hN, implFolded p a hB hp ho he hN⟩
  · exact ⟨e, hl, specFoldedN p e hB hl h, implFoldedN p e hB hl h⟩
set_option maxHeartbeats 40000000 in
theorem fnExactFolded (p : Pr) (e : List Tm) (hq : PrQ p) (hqe : e.length ≤ 9223372036854775807) : Ev Try.prog X (.fn 6 [.ag (prR p), .im e.length (encL tm e)] (bl true) [.dead, .dead]) := by
  obtain ⟨r, hS, hle, hPB⟩ := szProg (X := X) p 1048576 (by omega) (by omega) hq.l hq.s hq.a hq.b hq.e
  refine Ev.fnW (env := [(0, .ag (prR p)), (1, .im e.length (encL tm e))]) Try.func6 rfl nm_laws_FnExactFolded rfl rfl (by kernel_rfl) (.cons rfl (.cons rfl .nil)) ?_
  refine go3 ?_
  refine WO.call rfl rfl rfl hS rfl rfl ?_
  by_cases hr : r < 0
  · refine go3 ?_
    exact retV rfl rfl rfl rfl
  have hB := hPB (by omega)
  have cS := szTermS (X := X) e.length (encL tm e) r (by omega) (by omega) hqe
  refine go3 ?_
  refine WO.call rfl rfl rfl cS rfl rfl ?_
  by_cases hr3 : r - e.length < 0
  · rw [if_pos hr3]
    refine go3 ?_
    exact retV rfl rfl rfl rfl
  rw [if_neg hr3]
  have hE : e.length ≤ 1048576 := by omega
  obtain ⟨f, hf, hs, hi⟩ := foldBoth (X := X) p e hB hE
  have cP := toProg (X := X) p hB
  have cT := toTermS (X := X) e (by omega)
  have cE := eqProg (X := X) p hB
  have cG := eqTermS (X := X) e e (by omega) (r := true) (by simp)
  have cQ := eqTermS (X := X) f f (by omega) (r := true) (by simp)
  have hk0 := mkS_nn p.body
  have hk1 := mkS_le hB.e
  have cM := markProg (X := X) p 1 hB (by omega) (by omega)
  have hb1 := hB.l; have hb2 := hB.s; have hb3 := hB.a; have hb4 := hB.b
  obtain ⟨M, hM⟩ : ∃ M : Int, M = 1 + 2 * p.lows.length + 2 * p.secs.length + p.arrs.length + mkS p.body := ⟨_, rfl⟩
  rw [← hM] at cM
  have hM0 : 0 ≤ M ∧ M ≤ 1099511627776000 := by omega
  have c1 := markTermS (X := X) e M (by omega) (by omega) (by omega)
  have c2 := markTermS (X := X) f 1 (by omega) (by omega) (by omega)
  have cH := heldTermS (X := X) (markS f 1) 1 (by omega) (by rw [markS_len]; omega) (held_markS f 1)
  rw [markS_len] at cH
  have hm0 : 0 ≤ 1 + 2 * (f.length : Int) ∧ 1 + 2 * (f.length : Int) ≤ 4611686018427387904 := by omega
  obtain ⟨m, hm⟩ : ∃ m, m = 1 + 2 * (f.length : Int) := ⟨_, rfl⟩
  rw [← hm] at c2 cH hm0
  clear hPB hS cS hM hk0 hk1 hb1 hb2 hb3 hb4 hm
  refine go3 ?_
  refine WO.call rfl rfl rfl cP rfl rfl ?_
  refine WO.hardPr (r := 25) rfl ?_
  refine go3 ?_
  refine WO.call rfl rfl rfl cT rfl rfl ?_
  refine WO.callF rfl (.ag (FrzL.plains rfl) (.cons (frz1 rfl rfl) .nil)) hs (by simp only [noIm, noIm_tm]) rfl rfl ?_
  refine WO.hard (r := 28) (p := []) (x := .ow 93 2 f.length (encL tm f)) (y := .im f.length (encL tm f)) rfl rfl (by simp only [setN, Eng.hard, hardL_pl (encL_pl (f := tm) _)]) ?_
  refine WO.keep (e' := [(1, .im e.length (encL tm e)), (2, .op (prR p)), (28, .im f.length (encL tm f))]) (.cons rfl (.cons rfl (.cons rfl .nil))) ?_
  refine go3 ?_
  refine WO.call rfl rfl rfl cP rfl rfl ?_
  refine go3 ?_
  refine WO.stG (vs := prO p) rfl rfl rfl (takeAgQ (r := 30) (p := []) (cs := prO p) rfl (whL_prO p) rfl) rfl rfl rfl rfl ?_
  refine go3 ?_
  refine WO.call rfl rfl rfl cT rfl rfl ?_
  refine go3 ?_
  refine WO.q rfl (QE.ldG rfl rfl rfl (L := prV 7 [] p) rfl) rfl rfl ?_
  refine go3 ?_
  refine WO.callF rfl (frzPr rfl rfl rfl rfl (.cons (frz1 rfl rfl) .nil)) hi (by simp only [noIm, noIm_tm]) rfl rfl ?_
  refine go3 ?_
  refine WO.callF rfl (.cons (frz1 rfl rfl) (.cons (.plain _ rfl) .nil)) cQ rfl rfl rfl ?_
  refine go3 ?_
  refine WC.keep (e' := [(1, .im e.length (encL tm e)), (2, .op (prR p)), (6, .im f.length (encL tm f)), (7, .op (prO p)), (8, .ow 93 2 e.length (encL tm e)), (9, .ow 93 2 f.length (encL tm f))]) (.cons rfl (.cons rfl (.cons rfl (.cons rfl (.cons rfl (.cons rfl .nil)))))) ?_
  refine WC.regionDd ⟨[[], [], [1], [0, 1, 2], [0, 1, 2, 3]], [0, 1, 2, 4], [], [40, 41, 42, 44], [0, 1, 2, 3, 4], [([41, 42], [41, 42], false), ([40], [40], false), ([40], [40], false), ([], [], false), ([], [], false)]⟩ (by kernel_rfl) ?_
  refine WD.q rfl rfl rfl rfl rfl (QE.ldG rfl rfl rfl (L := prV 7 [] p) rfl) rfl rfl rfl ?_
  refine go3 ?_
  refine WD.q rfl rfl rfl rfl rfl (QE.call rfl rfl cP) rfl rfl rfl ?_
  refine go3 ?_
  refine WO.hardPr (r := 42) rfl ?_
  refine WO.callF rfl (frzPr rfl rfl rfl rfl (.ag (FrzL.plains rfl) .nil)) cE rfl rfl rfl ?_
  refine go3 ?_
  refine WO.call rfl rfl rfl cT rfl rfl ?_
  refine go3 ?_
  refine WO.callF rfl (.cons (frz1 rfl rfl) (.cons (frz1 rfl rfl) .nil)) cG rfl rfl rfl ?_
  refine go3 ?_
  refine WO.keep (e' := [(1, .im e.length (encL tm e)), (2, .op (prR p)), (6, .im f.length (encL tm f)), (7, .op (prO p)), (8, .ow 93 2 e.length (encL tm e)), (9, .ow 93 2 f.length (encL tm f)), (10, i64 1)]) (.cons rfl (.cons rfl (.cons rfl (.cons rfl (.cons rfl (.cons rfl (.cons rfl .nil))))))) ?_
  refine WO.q rfl (QE.ldG rfl rfl rfl (L := prV 7 [] p) rfl) rfl rfl ?_
  refine go3 ?_
  refine WO.callG (xs := [.tmp 51]) rfl rfl (takeFpr rfl) rfl rfl cM rfl (noIm_prM2 p 1) rfl rfl rfl rfl ?_
  refine go3 ?_
  refine WO.callR (xs := [.tmp 54]) rfl rfl rfl (encL_length _) rfl rfl c1 rfl (by simp only [noIm, noIm_tm]) rfl rfl rfl rfl ?_
  refine go3 ?_
  refine WO.callF rfl (.cons (frz1 rfl rfl) (.cons (.plain _ rfl) .nil)) cQ rfl rfl rfl ?_
  refine go3 ?_
  refine WO.keep (e' := [(1, .im e.length (encL tm e)), (2, .op (prR p)), (6, .im f.length (encL tm f)), (9, .ow 93 2 f.length (encL tm f)), (64, .vw 9 [] 0 f.length), (65, i64 1)]) (.cons rfl (.cons rfl (.cons rfl (.cons rfl (.cons rfl (.cons rfl .nil)))))) ?_
  refine WO.callR (xs := [.tmp 65]) rfl rfl rfl (encL_length _) rfl rfl c2 rfl (by simp only [noIm, noIm_tm]) rfl rfl rfl rfl ?_
  refine go3 ?_
  refine WO.callF rfl (.cons (frz1 rfl (markS_len _ _)) (.cons (.plain _ rfl) .nil)) cH rfl rfl rfl ?_
  refine go3 ?_
  refine WO.call rfl rfl rfl cP rfl rfl ?_
  refine WO.hardPr (r := 76) rfl ?_
  refine go3 ?_
  refine WO.call rfl rfl rfl cT rfl rfl ?_
  refine WO.callF rfl (.ag (FrzL.plains rfl) (.cons (frz1 rfl rfl) .nil)) hi (by simp only [noIm, noIm_tm]) rfl rfl ?_
  refine go3 ?_
  refine WO.callF rfl (.cons (frz1 rfl rfl) (.cons (.plain _ rfl) .nil)) cQ rfl rfl rfl ?_
  refine go3 ?_
  refine WO.callF rfl (.cons (frz1 rfl (markS_len _ _)) (.cons (.plain _ rfl) .nil)) cH rfl rfl rfl ?_
  refine go3 ?_
  exact retV rfl rfl rfl rfl
theorem fnExactFoldedW (p : Pr) (h : PrQ p) (e : List Tm) (he : e.length ≤ 9223372036854775807 ∧ ∀ x ∈ e, True) : Ev Try.prog X (.fn 6 [.ag (prR p), .im e.length (encL tm e)] (bl true) [.dead, .dead]) := fnExactFolded p e h he.1
end Go.Eng.C
