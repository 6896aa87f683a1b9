/- The law FnExactInputAt, walked by the engine. -/
import Derived.Test.YtdihagagelngiaaEngV6
import Derived.Test.YtdihagagelngiaaEngWf
import Derived.Test.YtdihagagelngiaaEngOq
namespace Go.Eng.C
open Go Go.Eng Go.RowKit Go.Proofs
set_option linter.unusedVariables false
set_option linter.unusedSimpArgs false
set_option maxRecDepth 10000
variable {X : FuncId → List AV → AV → List AV → Prop}
theorem nm_laws_FnExactInputAt : (Try.f9.name == "runtime.NumGoroutine") = false := by decide
theorem noIm_prM (p : Pr) (m : Int) : noIm (.ag (prM p m)) = true := by simp only [noIm, prM, noImL, noIm_inp', noIm_eI', noIm_stO, Bool.and_self]
theorem heldI (u : List Int) (m : Int) (h0 : 0 ≤ m) (hb : m + u.length ≤ 4611686018427387904) : Ev Try.prog X (.fn 53 [.im u.length (encL eI (markI u m)), i64 m] (i64 (m + u.length)) [.dead, .dead]) := by
  have h := heldInt64S (X := X) u m h0 hb
  rwa [markI_len] at h
/-- Both answers. -/
theorem inputAtBoth (p : Pr) (hB : PB p) (n : Int) : ∃ (u1 u2 : List Int) (ok : Bool), u1.length ≤ 6 ∧ u2.length ≤ 6 ∧ Ev Try.prog X (.fn 47 [.ag (prR p), i64 n] (.tu [ints u1, ints u2, bl ok]) [.dead, .dead]) ∧ ((ok = true ∧ Ev Try.prog X (.fn 25 [.ag (prR p), i64 n] (.tu [ints u1, ints u2, bl true]) [.dead, .dead])) ∨ (ok = false ∧ u1 = [] ∧ u2 = [] ∧ Ev Try.prog X (.fn 25 [.ag (prR p), i64 n] (.tu [.nl, .nl, bl false]) [.dead, .dead]))) := by
  by_cases h : PrOk p ∧ 0 ≤ n ∧ n < cntL (p.lows ++ p.secs)
  · have hn := (CB.of h.1.i h.1.w8).n
    have hl := atL_len (p.lows ++ p.secs) n
    refine ⟨_, _, true, ?_, ?_, specInputAt p hB h.1 n h.2.1 h.2.2, .inl ⟨rfl, implInputAt p hB h.1 n h.2.1 h.2.2⟩⟩
    · rw [List.length_take]; omega
    · rw [List.length_drop]; omega
  · exact ⟨[], [], false, by simp, by simp, specInputAtN p hB n h, .inr ⟨rfl, rfl, rfl, implInputAtN p hB n h⟩⟩
set_option maxHeartbeats 40000000 in
theorem fnExactInputAt (p : Pr) (n : Int) (k1 : p.lows.length ≤ 9223372036854775807) (k2 : p.secs.length ≤ 9223372036854775807) (k3 : p.arrs.length ≤ 9223372036854775807) (k4 : p.body.length ≤ 9223372036854775807) (k5 : ∀ s ∈ p.body, s.pl.length ≤ 9223372036854775807 ∧ s.ex.length ≤ 9223372036854775807) : Ev Try.prog X (.fn 9 [.ag (prR p), i64 n] (bl true) [.dead, .dead]) := by
  obtain ⟨r, hS, hle, hPB⟩ := szProg (X := X) p 1048576 (by omega) (by omega) k1 k2 k3 k4 k5
  refine Ev.fnW (env := [(0, .ag (prR p)), (1, i64 n)]) Try.func9 rfl nm_laws_FnExactInputAt rfl rfl (by kernel_rfl) (.cons rfl (.cons rfl .nil)) ?_
  refine go3 ?_
  refine WO.call rfl rfl rfl hS rfl rfl ?_
  by_cases hr : r < 0
  · refine go3 ?_
    exact retV rfl rfl rfl rfl
  have hB := hPB (by omega)
  obtain ⟨u1, u2, ok, l1, l2, hsp, him⟩ := inputAtBoth (X := X) p hB n
  have cP := toProg (X := X) p hB
  have cE := eqProg (X := X) p hB
  have hk0 := mkS_nn p.body
  have cM := markProg (X := X) p 1 hB (by omega) (by omega)
  obtain ⟨M, hM⟩ : ∃ M : Int, M = 1 + 2 * p.lows.length + 2 * p.secs.length + p.arrs.length + mkS p.body := ⟨_, rfl⟩
  rw [← hM] at cM
  have hM0 : 0 ≤ M := by omega
  clear hPB hS hM hk0
  refine go3 ?_
  refine WO.call rfl rfl rfl cP rfl rfl ?_
  refine WO.hardPr (r := 26) rfl ?_
  refine go3 ?_
  refine WO.call rfl rfl rfl hsp rfl rfl ?_
  refine WO.mvR rfl (.move _) rfl rfl rfl ?_
  refine WO.extR rfl rfl rfl rfl rfl ?_
  refine WO.extR rfl rfl rfl rfl rfl ?_
  refine WO.extR rfl rfl rfl rfl rfl ?_
  refine WO.takeP rfl (.assign _) rfl rfl (encL_length _) rfl rfl rfl ?_
  refine WO.takeP rfl (.assign _) rfl rfl (encL_length _) rfl rfl rfl ?_
  refine WO.hard (r := 6) (p := []) (x := ints u1) (y := .im u1.length (encL eI u1)) rfl rfl (by simp only [setN, Eng.hard, hardL_pl (encL_pl (f := eI) _)]) ?_
  refine WO.hard (r := 7) (p := []) (x := ints u2) (y := .im u2.length (encL eI u2)) rfl rfl (by simp only [setN, Eng.hard, hardL_pl (encL_pl (f := eI) _)]) ?_
  refine go3 ?_
  refine WO.call rfl rfl rfl cP rfl rfl ?_
  refine go3 ?_
  refine WO.stG (vs := prO p) rfl rfl rfl (takeAgQ (r := 33) (p := []) (cs := prO p) rfl (whL_prO p) rfl) rfl rfl rfl rfl ?_
  refine go3 ?_
  refine WO.q rfl (QE.ldG rfl rfl rfl (L := prV 9 [] p) rfl) rfl rfl ?_
  refine go3 ?_
  rcases him with ⟨rfl, him⟩ | ⟨rfl, rfl, rfl, him⟩
  · refine WO.callF rfl (frzPr rfl rfl rfl rfl (.cons (.plain _ rfl) .nil)) him (by simp only [noIm, noImL, noIm_eI, Bool.and_self]) rfl rfl ?_
    refine WO.mvR rfl (.move _) rfl rfl rfl ?_
    refine WO.extR rfl rfl rfl rfl rfl ?_
    refine WO.extR rfl rfl rfl rfl rfl ?_
    refine WO.extR rfl rfl rfl rfl rfl ?_
    refine WO.takeP rfl (.assign _) rfl rfl (encL_length _) rfl rfl rfl ?_
    refine WO.takeP rfl (.assign _) rfl rfl (encL_length _) rfl rfl rfl ?_
    refine go3 ?_
    refine WO.callF rfl (.cons (frz1 rfl rfl) (.cons (.plain _ rfl) .nil)) (eqInt64S u1 u1 (by omega) (r := true) (by simp)) rfl rfl rfl ?_
    refine go3 ?_
    refine WO.callF rfl (.cons (frz1 rfl rfl) (.cons (.plain _ rfl) .nil)) (eqInt64S u2 u2 (by omega) (r := true) (by simp)) rfl rfl rfl ?_
    refine go3 ?_
    refine WO.q rfl (QE.binT (c := false) (by kernel_rfl) rfl rfl rfl) rfl rfl ?_
    refine go3 ?_
    refine WC.regionDd ⟨[[], [], [1], [0, 1, 2], [0, 1, 2, 3]], [0, 1, 2, 4], [], [56, 57, 58, 60], [0, 1, 2, 3, 4], [([57, 58], [57, 58], false), ([56], [56], false), ([56], [56], false), ([], [], false), ([], [], false)]⟩ (by kernel_rfl) ?_
    refine WD.q rfl rfl rfl rfl rfl (QE.ldG rfl rfl rfl (L := prV 9 [] p) rfl) rfl rfl rfl ?_
    refine go3 ?_
    refine WD.q rfl rfl rfl rfl rfl (QE.call rfl rfl cP) rfl rfl rfl ?_
    refine go3 ?_
    refine WO.hardPr (r := 58) rfl ?_
    refine WO.callF rfl (frzPr rfl rfl rfl rfl (.ag (FrzL.plains rfl) .nil)) cE rfl rfl rfl ?_
    refine go3 ?_
    refine WO.q rfl (QE.ldG rfl rfl rfl (L := prV 9 [] p) rfl) rfl rfl ?_
    refine go3 ?_
    refine WO.callG (xs := [.tmp 62]) rfl rfl (takeFpr rfl) rfl rfl cM rfl (noIm_prM p 1) rfl rfl rfl rfl ?_
    refine go3 ?_
    refine WO.callF rfl (.cons (frz1 rfl rfl) (.cons (.plain _ rfl) .nil)) (eqInt64S u1 u1 (by omega) (r := true) (by simp)) rfl rfl rfl ?_
    refine go3 ?_
    refine WO.callF rfl (.cons (frz1 rfl rfl) (.cons (.plain _ rfl) .nil)) (eqInt64S u2 u2 (by omega) (r := true) (by simp)) rfl rfl rfl ?_
    refine go3 ?_
    refine WO.q rfl (QE.binT (c := false) (by kernel_rfl) rfl rfl rfl) rfl rfl ?_
    refine go3 ?_
    refine WO.callR (xs := [.tmp 84]) rfl rfl rfl (encL_length _) rfl rfl (markInt64S u1 1 (by omega) (by omega)) rfl (by simp only [noIm, noIm_eI]) rfl rfl rfl rfl ?_
    refine go3 ?_
    refine WO.callR (xs := [.tmp 87]) rfl rfl rfl (encL_length _) rfl rfl (markInt64S u2 (1 + u1.length) (by omega) (by omega)) rfl (by simp only [noIm, noIm_eI]) rfl rfl rfl rfl ?_
    refine go3 ?_
    refine WO.callF rfl (.cons (frz1 rfl (markI_len _ _)) (.cons (.plain _ rfl) .nil)) (heldI u1 1 (by omega) (by omega)) rfl rfl rfl ?_
    refine go3 ?_
    refine WO.callF rfl (.cons (frz1 rfl (markI_len _ _)) (.cons (.plain _ rfl) .nil)) (heldI u2 (1 + u1.length) (by omega) (by omega)) rfl rfl rfl ?_
    refine go3 ?_
    refine WO.call rfl rfl rfl cP rfl rfl ?_
    refine WO.hardPr (r := 104) rfl ?_
    refine go3 ?_
    refine WO.call rfl rfl rfl him rfl rfl ?_
    refine WO.mvR rfl (.move _) rfl rfl rfl ?_
    refine WO.extR rfl rfl rfl rfl rfl ?_
    refine WO.extR rfl rfl rfl rfl rfl ?_
    refine WO.extR rfl rfl rfl rfl rfl ?_
    refine WO.takeP rfl (.assign _) rfl rfl (encL_length _) rfl rfl rfl ?_
    refine WO.takeP rfl (.assign _) rfl rfl (encL_length _) rfl rfl rfl ?_
    refine go3 ?_
    refine WO.callF rfl (.cons (frz1 rfl rfl) (.cons (.plain _ rfl) .nil)) (eqInt64S u1 u1 (by omega) (r := true) (by simp)) rfl rfl rfl ?_
    refine go3 ?_
    refine WO.callF rfl (.cons (frz1 rfl rfl) (.cons (.plain _ rfl) .nil)) (eqInt64S u2 u2 (by omega) (r := true) (by simp)) rfl rfl rfl ?_
    refine go3 ?_
    refine WO.q rfl (QE.binT (c := false) (by kernel_rfl) rfl rfl rfl) rfl rfl ?_
    refine go3 ?_
    refine WO.callF rfl (.cons (frz1 rfl (markI_len _ _)) (.cons (.plain _ rfl) .nil)) (heldI u1 1 (by omega) (by omega)) rfl rfl rfl ?_
    refine go3 ?_
    refine WO.callF rfl (.cons (frz1 rfl (markI_len _ _)) (.cons (.plain _ rfl) .nil)) (heldI u2 (1 + u1.length) (by omega) (by omega)) rfl rfl rfl ?_
    refine go3 ?_
    exact retV rfl rfl rfl rfl
  · refine WO.callF rfl (frzPr rfl rfl rfl rfl (.cons (.plain _ rfl) .nil)) him (by simp only [noIm, noImL, noIm_eI, Bool.and_self]) rfl rfl ?_
    refine WO.mvR rfl (.move _) rfl rfl rfl ?_
    refine WO.extR rfl rfl rfl rfl rfl ?_
    refine WO.extR rfl rfl rfl rfl rfl ?_
    refine WO.extR rfl rfl rfl rfl rfl ?_
    refine WO.castO (r := 38) (e := 2) (sz := 1) (by decide) rfl ?_
    refine WO.castO (r := 39) (e := 2) (sz := 1) (by decide) rfl ?_
    refine WO.takeP (n := 0) (e := 2) (sz := 1) (cs := []) rfl (.assign _) rfl rfl rfl rfl rfl rfl ?_
    refine WO.takeP (n := 0) (e := 2) (sz := 1) (cs := []) rfl (.assign _) rfl rfl rfl rfl rfl rfl ?_
    refine go3 ?_
    refine WO.callF rfl (.cons (frz1 rfl rfl) (.cons (.plain _ rfl) .nil)) (eqInt64S ([] : List Int) ([] : List Int) (by omega) (r := true) (by simp)) rfl rfl rfl ?_
    refine go3 ?_
    refine WO.callF rfl (.cons (frz1 rfl rfl) (.cons (.plain _ rfl) .nil)) (eqInt64S ([] : List Int) ([] : List Int) (by omega) (r := true) (by simp)) rfl rfl rfl ?_
    refine go3 ?_
    refine WO.q rfl (QE.binT (c := false) (by kernel_rfl) rfl rfl rfl) rfl rfl ?_
    refine go3 ?_
    refine WC.regionDd ⟨[[], [], [1], [0, 1, 2], [0, 1, 2, 3]], [0, 1, 2, 4], [], [56, 57, 58, 60], [0, 1, 2, 3, 4], [([57, 58], [57, 58], false), ([56], [56], false), ([56], [56], false), ([], [], false), ([], [], false)]⟩ (by kernel_rfl) ?_
    refine WD.q rfl rfl rfl rfl rfl (QE.ldG rfl rfl rfl (L := prV 9 [] p) rfl) rfl rfl rfl ?_
    refine go3 ?_
    refine WD.q rfl rfl rfl rfl rfl (QE.call rfl rfl cP) rfl rfl rfl ?_
    refine go3 ?_
    refine WO.hardPr (r := 58) rfl ?_
    refine WO.callF rfl (frzPr rfl rfl rfl rfl (.ag (FrzL.plains rfl) .nil)) cE rfl rfl rfl ?_
    refine go3 ?_
    refine WO.q rfl (QE.ldG rfl rfl rfl (L := prV 9 [] p) rfl) rfl rfl ?_
    refine go3 ?_
    refine WO.callG (xs := [.tmp 62]) rfl rfl (takeFpr rfl) rfl rfl cM rfl (noIm_prM p 1) rfl rfl rfl rfl ?_
    refine go3 ?_
    refine WO.callF rfl (.cons (frz1 rfl rfl) (.cons (.plain _ rfl) .nil)) (eqInt64S ([] : List Int) ([] : List Int) (by omega) (r := true) (by simp)) rfl rfl rfl ?_
    refine go3 ?_
    refine WO.callF rfl (.cons (frz1 rfl rfl) (.cons (.plain _ rfl) .nil)) (eqInt64S ([] : List Int) ([] : List Int) (by omega) (r := true) (by simp)) rfl rfl rfl ?_
    refine go3 ?_
    refine WO.q rfl (QE.binT (c := false) (by kernel_rfl) rfl rfl rfl) rfl rfl ?_
    refine go3 ?_
    refine WO.callR (xs := [.tmp 84]) rfl rfl rfl (encL_length (f := eI) []) rfl rfl (markInt64S ([] : List Int) 1 (by omega) (by omega)) rfl (by simp only [noIm, noIm_eI]) rfl rfl rfl rfl ?_
    refine go3 ?_
    refine WO.callR (xs := [.tmp 87]) rfl rfl rfl (encL_length (f := eI) []) rfl rfl (markInt64S ([] : List Int) (1 + ([] : List Int).length) (by omega) (by omega)) rfl (by simp only [noIm, noIm_eI]) rfl rfl rfl rfl ?_
    refine go3 ?_
    refine WO.callF rfl (.cons (frz1 rfl (markI_len _ _)) (.cons (.plain _ rfl) .nil)) (heldI ([] : List Int) 1 (by omega) (by omega)) rfl rfl rfl ?_
    refine go3 ?_
    refine WO.callF rfl (.cons (frz1 rfl (markI_len _ _)) (.cons (.plain _ rfl) .nil)) (heldI ([] : List Int) (1 + ([] : List Int).length) (by omega) (by omega)) rfl rfl rfl ?_
    refine go3 ?_
    refine WO.call rfl rfl rfl cP rfl rfl ?_
    refine WO.hardPr (r := 104) rfl ?_
    refine go3 ?_
    refine WO.call rfl rfl rfl him rfl rfl ?_
    refine WO.mvR rfl (.move _) rfl rfl rfl ?_
    refine WO.extR rfl rfl rfl rfl rfl ?_
    refine WO.extR rfl rfl rfl rfl rfl ?_
    refine WO.extR rfl rfl rfl rfl rfl ?_
    refine WO.castO (r := 107) (e := 2) (sz := 1) (by decide) rfl ?_
    refine WO.castO (r := 108) (e := 2) (sz := 1) (by decide) rfl ?_
    refine WO.takeP (n := 0) (e := 2) (sz := 1) (cs := []) rfl (.assign _) rfl rfl rfl rfl rfl rfl ?_
    refine WO.takeP (n := 0) (e := 2) (sz := 1) (cs := []) rfl (.assign _) rfl rfl rfl rfl rfl rfl ?_
    refine go3 ?_
    refine WO.callF rfl (.cons (frz1 rfl rfl) (.cons (.plain _ rfl) .nil)) (eqInt64S ([] : List Int) ([] : List Int) (by omega) (r := true) (by simp)) rfl rfl rfl ?_
    refine go3 ?_
    refine WO.callF rfl (.cons (frz1 rfl rfl) (.cons (.plain _ rfl) .nil)) (eqInt64S ([] : List Int) ([] : List Int) (by omega) (r := true) (by simp)) rfl rfl rfl ?_
    refine go3 ?_
    refine WO.q rfl (QE.binT (c := false) (by kernel_rfl) rfl rfl rfl) rfl rfl ?_
    refine go3 ?_
    refine WO.callF rfl (.cons (frz1 rfl (markI_len _ _)) (.cons (.plain _ rfl) .nil)) (heldI ([] : List Int) 1 (by omega) (by omega)) rfl rfl rfl ?_
    refine go3 ?_
    refine WO.callF rfl (.cons (frz1 rfl (markI_len _ _)) (.cons (.plain _ rfl) .nil)) (heldI ([] : List Int) (1 + ([] : List Int).length) (by omega) (by omega)) rfl rfl rfl ?_
    refine go3 ?_
    exact retV rfl rfl rfl rfl
theorem fnExactInputAtW (p : Pr) (h : PrQ p) (n : Int) (hn : (Lit.int .i64 n).wf = true) : Ev Try.prog X (.fn 9 [.ag (prR p), i64 n] (bl true) [.dead, .dead]) := fnExactInputAt p n h.l h.s h.a h.b h.e
end Go.Eng.C
