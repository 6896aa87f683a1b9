/- Contracts of functions, by the engine: CodeOf and ProgOk of both sides. -/
import Derived.Test.YtbhdobjjhkkpkaaEngXl
import Derived.Test.YtbhdobjjhkkpkaaEngXk
namespace Go.Eng.C
open Go Go.Eng Go.RowKit Go.Proofs
set_option linter.unusedVariables false
set_option linter.unusedSimpArgs false
set_option maxRecDepth 10000
variable {X : FuncId → List AV → AV → List AV → Prop}
theorem nm_spec_CodeOf : (Try.f51.name == "runtime.NumGoroutine") = false := by decide
theorem nm_spec_ProgOk : (Try.f81.name == "runtime.NumGoroutine") = false := by decide
theorem nm_impl_CodeOf : (Try.f49.name == "runtime.NumGoroutine") = false := by decide
theorem nm_impl_ProgOk : (Try.f52.name == "runtime.NumGoroutine") = false := by decide

theorem cN1 {p : Pr} (h : ¬ (1 ≤ p.w ∧ p.w ≤ 8)) : codeN p = 1 := by unfold codeN; rw [if_pos h]
theorem cN2 {p : Pr} (h : 1 ≤ p.w ∧ p.w ≤ 8) (h2 : ¬ inputsOk p) : codeN p = 2 := by unfold codeN; rw [if_neg (by simp [h]), if_pos h2]
theorem cN3 {p : Pr} (h : 1 ≤ p.w ∧ p.w ≤ 8) (h2 : inputsOk p) (h3 : ¬ roomOk p) : codeN p = 3 := by unfold codeN; rw [if_neg (by simp [h]), if_neg (by simp [h2]), if_pos h3]
theorem cN4 {p : Pr} (h : 1 ≤ p.w ∧ p.w ≤ 8) (h2 : inputsOk p) (h3 : roomOk p) (h4 : ¬ ∀ s ∈ p.body, stOk p s) : codeN p = 4 := by unfold codeN; rw [if_neg (by simp [h]), if_neg (by simp [h2]), if_neg (by simp [h3]), if_pos h4]
theorem cN5 {p : Pr} (h : 1 ≤ p.w ∧ p.w ≤ 8) (h2 : inputsOk p) (h3 : roomOk p) (h4 : ∀ s ∈ p.body, stOk p s) (h5 : nodesX p.body = none) : codeN p = 5 := by unfold codeN; rw [if_neg (by simp [h]), if_neg (by simp [h2]), if_neg (by simp [h3]), if_neg (by simpa using h4), h5]
theorem cN6 {p : Pr} (h : 1 ≤ p.w ∧ p.w ≤ 8) (h2 : inputsOk p) (h3 : roomOk p) (h4 : ∀ s ∈ p.body, stOk p s) {r : Ns} (h5 : nodesX p.body = some r) {n : Int} (h6 : n = if 400 < stp p.body r then 6 else 0) : n = codeN p := by unfold codeN; rw [if_neg (by simp [h]), if_neg (by simp [h2]), if_neg (by simp [h3]), if_neg (by simpa using h4), h5, h6]
theorem in255 {p : Pr} (h0 : 1 ≤ p.w) (h8 : p.w ≤ 8) {b : Bool} {l : List Inp} (h : ∀ x ∈ l, inOk p.w b x) : ∀ x ∈ l, 0 ≤ x.max ∧ x.max ≤ 255 := fun x hx => by
  have hsz := pow_small (w := p.w) (by omega) h8
  obtain ⟨h1, h2, -⟩ := h x hx
  omega
set_option maxHeartbeats 8000000 in
theorem specCodeOf (p : Pr) (hB : PB p) : Ev Try.prog X (.fn 51 [.ag (prR p)] (i64 (codeN p)) [.dead]) := by
  have hl := hB.l; have hs := hB.s; have ha := hB.a; have hb := hB.b
  refine Ev.fnW (env := [(0, .ag (prR p))]) Try.func51 rfl nm_spec_CodeOf rfl rfl (by kernel_rfl) (.cons rfl .nil) ?_
  refine go2 ?_
  refine WO.callB rfl rfl rfl (l1In _ _ _) rfl (fun hw => ?_) (fun hw => ?_)
  rotate_left
  · refine go2 ?_
    exact retV rfl (congrArg i64 (cN1 hw).symm) rfl rfl
  refine go2 ?_
  refine WO.callB rfl rfl rfl (l3Inputs p hw.1 hw.2 p.lows hl true) rfl (fun i1 => ?_) (fun i1 => ?_)
  rotate_left
  · refine go2 ?_
    exact retV rfl (congrArg i64 (cN2 hw (fun h => i1 ⟨h.2.2.1, h.1⟩)).symm) rfl rfl
  refine go2 ?_
  refine WO.callB rfl rfl rfl (l3Inputs p hw.1 hw.2 p.secs hs false) rfl (fun i2 => ?_) (fun i2 => ?_)
  rotate_left
  · refine go2 ?_
    exact retV rfl (congrArg i64 (cN2 hw (fun h => i2 ⟨h.2.2.2.1, h.2.1⟩)).symm) rfl rfl
  refine go2 ?_
  refine WO.call rfl rfl rfl (l3AllBits p i1.2 i2.2 (in255 hw.1 hw.2 i1.1) (in255 hw.1 hw.2 i2.1)) rfl rfl ?_
  refine WO.cmp rfl rfl rfl rfl rfl (fun i3 => ?_) (fun i3 => ?_)
  · refine go2 ?_
    exact retV rfl (congrArg i64 (cN2 hw (fun h => by have := h.2.2.2.2; omega)).symm) rfl rfl
  have hin : inputsOk p := ⟨i1.2, i2.2, i1.1, i2.1, by omega⟩
  refine go2 ?_
  refine WO.callB rfl rfl rfl (l3Room p (by omega)) rfl (fun hr => ?_) (fun hr => ?_)
  rotate_left
  · refine go2 ?_
    exact retV rfl (congrArg i64 (cN3 hw hin hr).symm) rfl rfl
  refine go2 ?_
  refine WO.callB rfl rfl rfl (l3Stmts p hw.1 hw.2 hB hr.1 hr.2.1) rfl (fun hst => ?_) (fun hst => ?_)
  rotate_left
  · refine go2 ?_
    exact retV rfl (congrArg i64 (cN4 hw hin hr hst).symm) rfl rfl
  have hb40 : p.body.length ≤ 40 := hr.2.2.2.1
  refine go2 ?_
  refine WO.call rfl rfl rfl (l3Block p.body (by omega) 0) rfl rfl ?_
  refine go2 ?_
  refine WO.cmp rfl rfl rfl rfl rfl (fun hn => ?_) (fun hn => ?_)
  · refine go2 ?_
    exact retV rfl (congrArg i64 (cN5 hw hin hr hst (nodesX_stop.2 hn)).symm) rfl rfl
  cases hX : nodesX p.body with
  | none => exact absurd (nodesX_stop.1 hX) hn
  | some r =>
    refine go2 ?_
    refine WO.call rfl rfl rfl (l3Steps p.body hb40 (loop_ok hst) _ 0 p.body.length r (Nat.le_refl _) (by omega) (nodesX_bk hX)) rfl rfl ?_
    refine WO.cmp rfl rfl rfl rfl rfl (fun h6 => ?_) (fun h6 => ?_) <;> refine go2 ?_
    · exact retV rfl (congrArg i64 (cN6 hw hin hr hst hX (by rw [if_pos h6]))) rfl rfl
    · exact retV rfl (congrArg i64 (cN6 hw hin hr hst hX (by rw [if_neg h6]))) rfl rfl
theorem specProgOk (p : Pr) (hB : PB p) {r : Bool} (hr : r = true ↔ PrOk p) : Ev Try.prog X (.fn 81 [.ag (prR p)] (bl r) [.dead]) := by
  rw [← codeN_ok] at hr
  refine Ev.fnW (env := [(0, .ag (prR p))]) Try.func81 rfl nm_spec_ProgOk rfl rfl (by kernel_rfl) (.cons rfl .nil) ?_
  refine go2 ?_
  refine WO.call rfl rfl rfl (specCodeOf p hB) rfl rfl ?_
  refine WO.cmp rfl rfl rfl rfl rfl (fun h => ?_) (fun h => ?_) <;> refine go2 ?_
  · exact retV rfl (bool_eq hr (by simp [h])) rfl rfl
  · exact retV rfl (bool_eq hr (by simp [h])) rfl rfl
set_option maxHeartbeats 8000000 in
theorem implCodeOf (p : Pr) (hB : PB p) : Ev Try.prog X (.fn 49 [.ag (prR p)] (i64 (codeN p)) [.dead]) := by
  have hl := hB.l; have hs := hB.s; have ha := hB.a; have hb := hB.b
  refine Ev.fnW (env := [(0, .ag (prR p))]) Try.func49 rfl nm_impl_CodeOf rfl rfl (by kernel_rfl) (.cons rfl .nil) ?_
  refine go2 ?_
  refine WO.cmp rfl rfl rfl rfl rfl (fun w1 => ?_) (fun w1 => ?_)
  · refine go2 ?_
    exact retV rfl (congrArg i64 (cN1 (by omega)).symm) rfl rfl
  refine go2 ?_
  refine WO.cmp rfl rfl rfl rfl rfl (fun w2 => ?_) (fun w2 => ?_)
  · refine go2 ?_
    exact retV rfl (congrArg i64 (cN1 (by omega)).symm) rfl rfl
  have hw : 1 ≤ p.w ∧ p.w ≤ 8 := by omega
  refine go2 ?_
  refine WO.callFB rfl (.cons (frzA rfl rfl) .nil) (inputRight p hw.1 hw.2 hl hs) rfl (fun hin => ?_) (fun hin => ?_)
  rotate_left
  · refine go2 ?_
    exact retV rfl (congrArg i64 (cN2 hw hin).symm) rfl rfl
  refine go2 ?_
  refine WO.callFB rfl (.cons (frzA rfl rfl) .nil) (roomRight p ha hb) rfl (fun hr => ?_) (fun hr => ?_)
  rotate_left
  · refine go2 ?_
    exact retV rfl (congrArg i64 (cN3 hw hin hr).symm) rfl rfl
  have hb40 : p.body.length ≤ 40 := hr.2.2.2.1
  refine go2 ?_
  refine WC.loopS (S := Nat) (fun i => [(1, .op (prR p)), (23, i64 p.body.length), (24, i64 i)]) (fun i => i ≤ p.body.length ∧ ∀ j < i, stOk p (p.body.getD j zs)) (fun i => p.body.length - i) 0 (.cons rfl (.cons rfl (.cons rfl .nil))) ⟨by simp, by simp⟩ ?_
  rintro i ⟨g1, g2⟩
  refine go2 ?_
  refine WO.cmp rfl rfl rfl rfl rfl (fun h3 => ?_) (fun h3 => ?_)
  · have hi : i < p.body.length := by omega
    have hsx := hB.e _ (getD_mem hi zs)
    refine go2 ?_
    refine WO.ixN (f := stR) zs rfl rfl rfl hi rfl ?_
    refine WO.callFB rfl (.cons (frzA rfl rfl) (.cons (.plain _ rfl) .nil)) (stmtRight p hw.1 hw.2 hB hr.1 hr.2.1 _ _ hsx.1 hsx.2) rfl (fun h4 => ?_) (fun h4 => ?_)
    · refine go2 ?_
      exact lpK.mk (i + 1) (.cons rfl (.cons rfl (.cons rfl .nil))) ⟨by omega, fun j hj => by
        by_cases e : j = i
        · subst e; exact h4
        · exact g2 j (by omega)⟩ (by omega)
    · refine go2 ?_
      exact retV rfl (congrArg i64 (cN4 hw hin hr (fun h => h4 (h _ (getD_mem hi zs)))).symm) rfl rfl
  have hst : ∀ s ∈ p.body, stOk p s := all_of_getD zs fun j hj => g2 j (by omega)
  refine go2 ?_
  obtain ⟨res, fin, hE, rfl, hG⟩ := nodesOf (X := X) p.body (by omega)
  cases hX : nodesX p.body with
  | none =>
    rw [hX] at hG
    rcases hG with rfl | ⟨n, cs, rfl⟩
    · refine WO.call rfl rfl rfl hE rfl rfl ?_
      refine go2 ?_
      exact retV rfl (congrArg i64 (cN5 hw hin hr hst hX).symm) rfl rfl
    · refine WO.call rfl rfl rfl hE rfl rfl ?_
      refine go2 ?_
      exact retV rfl (congrArg i64 (cN5 hw hin hr hst hX).symm) rfl rfl
  | some r =>
    rw [hX] at hG
    subst hG
    have hbk := nodesX_bk hX
    have hsz := hbk.sz_le
    have nn := stp_nn (loop_ok hst) hbk.ok
    refine WO.call rfl rfl rfl hE rfl rfl ?_
    refine go2 ?_
    refine WO.call rfl rfl rfl (stepsIn p.body hb40 (loop_ok hst) r (by omega) hbk.ok) rfl rfl ?_
    refine WO.cmp rfl rfl rfl rfl rfl (fun h6 => ?_) (fun h6 => ?_) <;> refine go2 ?_
    · exact retV rfl (congrArg i64 (cN6 hw hin hr hst hX (by rw [if_pos (by omega)]))) rfl rfl
    · exact retV rfl (congrArg i64 (cN6 hw hin hr hst hX (by rw [if_neg (by omega)]))) rfl rfl
theorem implProgOk (p : Pr) (hB : PB p) {r : Bool} (hr : r = true ↔ PrOk p) : Ev Try.prog X (.fn 52 [.ag (prR p)] (bl r) [.dead]) := by
  rw [← codeN_ok] at hr
  refine Ev.fnW (env := [(0, .ag (prR p))]) Try.func52 rfl nm_impl_ProgOk rfl rfl (by kernel_rfl) (.cons rfl .nil) ?_
  refine go2 ?_
  refine WO.call rfl rfl rfl (implCodeOf p hB) rfl rfl ?_
  refine WO.cmp rfl rfl rfl rfl rfl (fun h => ?_) (fun h => ?_) <;> refine go2 ?_
  · exact retV rfl (bool_eq hr (by simp [h])) rfl rfl
  · exact retV rfl (bool_eq hr (by simp [h])) rfl rfl
end Go.Eng.C
