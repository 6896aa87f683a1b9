/- Contracts of functions, by the engine: FlowOf and IsQuiet, of the reference. -/
import Derived.Test.YtbhdobjjhkkpkaaEngFf
namespace Go.Eng.C
open Go Go.Eng Go.RowKit Go.Proofs
set_option linter.unusedVariables false
set_option linter.unusedSimpArgs false
set_option maxRecDepth 10000
variable {X : FuncId → List AV → AV → List AV → Prop}
set_option maxHeartbeats 16000000 in
theorem specFlowOf (p : Pr) (hB : PB p) (hp : PrOk p) {r : Ns} (hr : nodesX p.body = some r) : Ev Try.prog X (.fn 26 [.ag (prR p)] (.ag (flO (flowN p r))) [.dead]) := by
  obtain ⟨r1, r2, r3, r4, r5⟩ := hp.r
  have hl1 : p.lows.length ≤ 3 := hp.i.1
  have hs3 : p.secs.length ≤ 3 := hp.i.2.1
  have hin : insN p = p.lows.length + p.secs.length := by unfold insN; omega
  have hvn : varsN p = p.lows.length + p.secs.length + p.temps := by unfold varsN; omega
  have hv0 : 0 ≤ varsN p := by omega
  obtain ⟨NV, hNV⟩ : ∃ NV : Nat, varsN p = NV := ⟨(varsN p).toNat, by omega⟩
  have hbk := nodesX_bk hr
  have cV := l3Vars (X := X) p (by omega) (by omega) (by omega) (by omega)
  rw [hNV] at cV
  obtain ⟨hi1, hi2⟩ := iniF_ok hs3 hv0
  have hK : flowN p r = itR p (glN p.body r []) (rndN p) (iniF p) := rfl
  have hall := fun {f : Fl} (h1 : FlOk p f) (h2 : SubF f) => posR_all hp.s hbk h1 h2
  obtain ⟨L, hL⟩ : ∃ L, L = glN p.body r [] := ⟨_, rfl⟩
  rw [← hL] at hK hall
  have hrn : (rndN p : Int) = 3 * (NV + p.arrs.length + 2) + 1 := by unfold rndN; rw [hNV, Int.toNat_natCast]; omega
  refine Ev.fnW (env := [(0, .ag (prR p))]) Try.func26 rfl nm_spec_FlowOf rfl rfl (by kernel_rfl) (.cons rfl .nil) ?_
  refine go3 ?_
  refine WO.call rfl rfl rfl (specProgOk p hB (r := true) (by simp [hp])) rfl rfl ?_
  refine go3 ?_
  refine WC.regionDd ⟨[[], [0], [0, 1], [], [3], [3, 4], [3, 4, 5], [0, 1, 2, 3, 4, 5, 6], [], [0, 1, 2, 3, 4, 5, 6, 7, 8]], [0, 1, 2, 3, 4, 5, 6, 7, 8], [], [11, 12, 13, 14, 15, 16, 17, 18, 3], [0, 1, 2, 3, 4, 5, 6, 7, 8, 9], [([14, 15, 16, 17, 3], [14, 15, 16, 17, 3], false), ([14, 15, 16, 17, 3], [14, 15, 16, 17, 3], false), ([14, 15, 16, 17, 3], [14, 15, 16, 17, 3], false), ([11, 12, 13, 3], [11, 12, 13, 3], false), ([11, 12, 13, 3], [11, 12, 13, 3], false), ([11, 12, 13, 3], [11, 12, 13, 3], false), ([11, 12, 13, 3], [11, 12, 13, 3], false), ([3], [3], false), ([11, 12, 13, 14, 15, 16, 17, 18], [11, 12, 13, 14, 15, 16, 17, 18], false), ([], [], false)]⟩ (by kernel_rfl) ?_
  refine go3 ?_
  refine WD.q rfl rfl rfl rfl rfl (QE.call rfl rfl cV) rfl rfl rfl ?_
  refine WD.q rfl rfl rfl rfl rfl (QE.mk (f := eI) 0 rfl rfl rfl (by omega) (by unfold maxLen; omega)) rfl rfl rfl ?_
  obtain ⟨Z, hZ⟩ : ∃ Z, Z = List.replicate NV (0 : Int) := ⟨_, rfl⟩
  rw [show AV.ow 2 1 NV (encL eI (List.replicate NV 0)) = ints Z by rw [hZ, ints, List.length_replicate]]
  refine go3 ?_
  refine WD.q rfl rfl rfl rfl rfl (QE.mk (f := eI) 0 rfl rfl rfl (by omega) (by unfold maxLen; omega)) rfl rfl rfl ?_
  obtain ⟨A, hA⟩ : ∃ A, A = List.replicate p.arrs.length (0 : Int) := ⟨_, rfl⟩
  rw [show AV.ow 2 1 p.arrs.length (encL eI (List.replicate p.arrs.length 0)) = ints A by rw [hA, ints, List.length_replicate]]
  have hZl : Z.length = NV := by rw [hZ, List.length_replicate]
  have hZi : ∀ k, (iniL p.lows.length k Z).length = NV := fun k => by rw [iniL_len, hZl]
  have hF0 : iniF p = ⟨iniL p.lows.length p.secs.length Z, A, 0, 0⟩ := by rw [hZ, hA]; unfold iniF; rw [hNV, Int.toNat_natCast]
  refine go3 ?_
  refine WD.q rfl rfl rfl rfl rfl (QE.bld (cs := [.vw 13 [] 0 Z.length, .vw 17 [] 0 A.length, i64 0, i64 0]) rfl) rfl rfl rfl ?_
  refine WD.q rfl rfl rfl rfl rfl QE.alloc rfl rfl rfl ?_
  refine go3 ?_
  refine WO.stG (vs := flO ⟨Z, A, 0, 0⟩) rfl rfl rfl (take2 (r1 := 13) (r2 := 17) rfl rfl (encL_length _) (encL_length _) rfl) rfl rfl rfl rfl ?_
  refine go3 ?_
  refine WC.loopS (S := Nat) (fun k => [(1, .op (prR p)), (2, .op [.nl, .nl, i64 0, i64 0]), (3, .op (flO ⟨iniL p.lows.length k Z, A, 0, 0⟩)), (4, i64 (2 ^ k)), (5, i64 k)]) (fun k => k ≤ p.secs.length) (fun k => p.secs.length - k) 0 (.cons rfl (.cons rfl (.cons rfl (.cons rfl (.cons rfl .nil))))) (Nat.zero_le _) ?_
  intro k g1
  refine go3 ?_
  refine WO.cmp rfl rfl rfl rfl rfl (fun h3 => ?_) (fun h3 => ?_)
  · have hj : (p.lows.length : Int) + k = ((p.lows.length + k : Nat) : Int) := by omega
    have hjl : p.lows.length + k < (iniL p.lows.length k Z).length := by rw [hZi]; omega
    have hpw : (1 : Int) ≤ 2 ^ k ∧ (2 : Int) ^ k ≤ 8 := by
      have : k = 0 ∨ k = 1 ∨ k = 2 ∨ k = 3 := by omega
      rcases this with h | h | h | h <;> subst h <;> decide
    have e1 : (2 : Int) ^ (k + 1) = 2 ^ k * 2 := Int.pow_succ 2 k
    refine go3 ?_
    refine WO.q rfl (QE.ldOwP (p := []) (i := 0) rfl rfl rfl) rfl rfl ?_
    refine go3 ?_
    rw [hj]
    refine WO.q rfl (QE.ixP (p.lows.length + k) rfl rfl (by rw [encL_len1]; exact Nat.le_refl _) rfl hjl) rfl rfl ?_
    refine WO.stP (p := [0]) (i := p.lows.length + k) (z := .op (flO ⟨iniL p.lows.length (k + 1) Z, A, 0, 0⟩)) rfl rfl rfl rfl (by rw [encL_len1]; exact hjl) rfl (setN_f0 ⟨iniL p.lows.length k Z, A, 0, 0⟩ hjl) rfl ?_
    refine go3 ?_
    rw [← e1]
    exact lpK.mk (k + 1) (.cons rfl (.cons rfl (.cons rfl (.cons rfl (.cons rfl .nil))))) (by omega) (show p.secs.length - (k + 1) < p.secs.length - k by omega)
  · have : k = p.secs.length := by omega
    subst this
    rw [← hF0]
    refine go3 ?_
    refine WC.loopS (S := Nat) (fun k => [(1, .op (prR p)), (2, .op [.nl, .nl, i64 0, i64 0]), (3, .op (flO (itR p L k (iniF p)))), (6, i64 k)]) (fun k => k ≤ rndN p) (fun k => rndN p - k) 0 (.cons rfl (.cons rfl (.cons rfl (.cons rfl .nil)))) (Nat.zero_le _) ?_
    intro k g2
    have fk := itR_ok L k hi1
    have fs := itR_sub L k hi1 hi2
    have fkv := fk.nv
    have fka := fk.na
    rw [hNV] at fkv
    have e1 : itR p L (k + 1) (iniF p) = rndL p L (itR p L k (iniF p)) := by rw [itR_add]; rfl
    obtain ⟨f, hf⟩ : ∃ f, f = itR p L k (iniF p) := ⟨_, rfl⟩
    rw [← hf] at fk fs fkv fka e1 ⊢
    have cR := l9Round (X := X) p f hp.rp r4 fk (by omega)
    rw [(hall fk fs).1, ← e1] at cR
    refine go3 ?_
    refine WO.q rfl (QE.ldOwP (p := []) (i := 0) rfl rfl rfl) rfl rfl ?_
    refine go3 ?_
    refine WO.q rfl (QE.ldOwP (p := []) (i := 1) rfl rfl rfl) rfl rfl ?_
    refine go3 ?_
    refine WO.cmp rfl rfl rfl rfl rfl (fun h4 => ?_) (fun h4 => ?_)
    · have hend : ∀ {Q : Ex → (Nat → AV) → Prop} (env : Env), Keep (look env) [(1, .op (prR p)), (2, .op [.nl, .nl, i64 0, i64 0]), (3, .op (flO (itR p L (k + 1) (iniF p)))), (6, i64 ((k : Int) + 1))] → lpK (fun k => [(1, .op (prR p)), (2, .op [.nl, .nl, i64 0, i64 0]), (3, .op (flO (itR p L k (iniF p)))), (6, i64 k)]) (fun k => k ≤ rndN p) (fun k => rndN p - k) k Q .normal (look env) := fun {Q} env h => lpK.mk (k + 1) h (by omega) (show rndN p - (k + 1) < rndN p - k by omega)
      generalize itR p L (k + 1) (iniF p) = f' at *
      refine go3 ?_
      refine WO.q rfl (QE.ldG rfl rfl rfl (L := flV 3 f) rfl) rfl rfl ?_
      refine WO.callF rfl (.ag (FrzL.plains rfl) (frzFl rfl rfl .nil)) cR (noIm_flO f') rfl rfl ?_
      refine WO.keep (e' := [(1, .op (prR p)), (2, .op [.nl, .nl, i64 0, i64 0]), (3, .op (flO f)), (6, i64 k), (53, .ag (flO f'))]) (.cons rfl (.cons rfl (.cons rfl (.cons rfl (.cons rfl .nil))))) ?_
      refine WO.stG (vs := flO f') rfl rfl rfl (takeAgQ (r := 53) (p := []) (cs := flO f') rfl (whL_flO f') rfl) rfl rfl rfl rfl ?_
      refine go3 ?_
      exact hend _ (.cons rfl (.cons rfl (.cons rfl (.cons rfl .nil))))
    · have hkk : k = rndN p := by omega
      subst hkk
      rw [← hK] at hf
      subst hf
      refine go3 ?_
      refine WO.q rfl (QE.ldG rfl rfl rfl (L := flV 3 (flowN p r)) rfl) rfl rfl ?_
      refine WO.stG (vs := flO (flowN p r)) rfl rfl rfl (.ag (takeVr (r := 3) (cs := flO (flowN p r)) rfl (whL_flO _)) (.nil _)) rfl rfl rfl rfl ?_
      refine go3 ?_
      exact retCG rfl rfl rfl (whL_flO _) rfl rfl rfl
theorem specFlowOfN (p : Pr) (hB : PB p) (hp : ¬ PrOk p) : Ev Try.prog X (.fn 26 [.ag (prR p)] (.ag [.nl, .nl, i64 0, i64 0]) [.dead]) := by
  refine Ev.fnW (env := [(0, .ag (prR p))]) Try.func26 rfl nm_spec_FlowOf rfl rfl (by kernel_rfl) (.cons rfl .nil) ?_
  refine go3 ?_
  refine WO.call rfl rfl rfl (specProgOk p hB (r := false) (by simp [hp])) rfl rfl ?_
  refine go3 ?_
  refine WO.bld (cs := [.nl, .nl, i64 0, i64 0]) rfl rfl rfl rfl ?_
  refine go3 ?_
  exact retC rfl rfl rfl rfl rfl rfl rfl
end Go.Eng.C
