/- Contracts of functions, by the engine: what makes a program right, of the program. -/
import Derived.Test.YtbhdobjjhkkpkaaEngXe
namespace Go.Eng.C
open Go Go.Eng Go.RowKit Go.Proofs
set_option linter.unusedVariables false
set_option linter.unusedSimpArgs false
set_option maxRecDepth 10000
variable {X : FuncId → List AV → AV → List AV → Prop}
theorem nm_impl_inputsOf : (Try.f155.name == "runtime.NumGoroutine") = false := by decide
theorem nm_impl_varsOf : (Try.f84.name == "runtime.NumGoroutine") = false := by decide
theorem nm_impl_reckonable : (Try.f75.name == "runtime.NumGoroutine") = false := by decide
theorem nm_impl_mayStand : (Try.f95.name == "runtime.NumGoroutine") = false := by decide
theorem nm_impl_inputRight : (Try.f106.name == "runtime.NumGoroutine") = false := by decide
theorem nm_impl_roomRight : (Try.f107.name == "runtime.NumGoroutine") = false := by decide
theorem nm_impl_holdsPlace : (Try.f171.name == "runtime.NumGoroutine") = false := by decide
theorem nm_impl_stmtRight : (Try.f108.name == "runtime.NumGoroutine") = false := by decide

theorem inputsOf (p : Pr) (h1 : p.lows.length ≤ 1048576) (h2 : p.secs.length ≤ 1048576) : Ev Try.prog X (.fn 155 [.ip (prR p)] (i64 (insN p)) [.dead]) := by
  refine Ev.fnW (env := [(0, .ip (prR p))]) Try.func155 rfl nm_impl_inputsOf rfl rfl (by kernel_rfl) (.cons rfl .nil) ?_
  refine go ?_
  refine WC.regionD ⟨[[], [0], [0, 1], [0, 1, 2], [0, 1, 2, 3], [], [5], [5, 6], [5, 6, 7], [5, 6, 7, 8], [0, 1, 2, 3, 4, 5, 6, 7, 8, 9], [0, 1, 2, 3, 4, 5, 6, 7, 8, 9, 10]], [0, 1, 2, 3, 4, 5, 6, 7, 8, 9, 10], [], [3, 4, 5, 6, 7, 8, 9, 10, 11, 12, 13], [0, 1, 2, 3, 4, 5, 6, 7, 8, 9, 10, 11], [([8, 9, 10, 11, 12], [8, 9, 10, 11, 12], false), ([8, 9, 10, 11, 12], [8, 9, 10, 11, 12], false), ([8, 9, 10, 11, 12], [8, 9, 10, 11, 12], false), ([8, 9, 10, 11, 12], [8, 9, 10, 11, 12], false), ([8, 9, 10, 11, 12], [8, 9, 10, 11, 12], false), ([3, 4, 5, 6, 7], [3, 4, 5, 6, 7], false), ([3, 4, 5, 6, 7], [3, 4, 5, 6, 7], false), ([3, 4, 5, 6, 7], [3, 4, 5, 6, 7], false), ([3, 4, 5, 6, 7], [3, 4, 5, 6, 7], false), ([3, 4, 5, 6, 7], [3, 4, 5, 6, 7], false), ([], [], false), ([], [], false)]⟩ (by kernel_rfl) rfl ?_
  refine go ?_
  exact retV rfl (congrArg i64 (by unfold insN; omega)) rfl rfl
theorem varsOf (p : Pr) (h1 : p.lows.length ≤ 1048576) (h2 : p.secs.length ≤ 1048576) (h3 : -1048576 ≤ p.temps) (h4 : p.temps ≤ 1048576) : Ev Try.prog X (.fn 84 [.ip (prR p)] (i64 (varsN p)) [.dead]) := by
  have hv : varsN p = insN p + p.temps := rfl
  have hi : insN p = (p.lows.length : Int) + p.secs.length := by unfold insN; omega
  refine Ev.fnW (env := [(0, .ip (prR p))]) Try.func84 rfl nm_impl_varsOf rfl rfl (by kernel_rfl) (.cons rfl .nil) ?_
  refine go ?_
  refine WC.regionD ⟨[[], [0], [], [2], [2, 3], [2, 3, 4], [0, 1, 2, 3, 4, 5], [0, 1, 2, 3, 4, 5, 6]], [0, 1, 2, 3, 4, 5, 6], [], [3, 4, 5, 6, 7, 8, 9], [0, 1, 2, 3, 4, 5, 6, 7], [([5, 6, 7, 8], [5, 6, 7, 8], false), ([5, 6, 7, 8], [5, 6, 7, 8], false), ([3, 4], [3, 4], false), ([3, 4], [3, 4], false), ([3, 4], [3, 4], false), ([3, 4], [3, 4], false), ([], [], false), ([], [], false)]⟩ (by kernel_rfl) rfl ?_
  refine go ?_
  refine WD.call rfl rfl rfl rfl rfl rfl rfl (inputsOf p h1 h2) rfl rfl rfl ?_
  refine go ?_
  exact retV rfl rfl rfl rfl
set_option maxHeartbeats 8000000 in
theorem reckonable (p : Pr) (h0 : 1 ≤ p.w) (h8 : p.w ≤ 8) (hB : PB p) (ht0 : 0 ≤ p.temps) (ht1 : p.temps ≤ 6) (e : List Tm) (he : e.length ≤ 1048576) {r : Bool} (hr : r = true ↔ reckOk p e) : Ev Try.prog X (.fn 75 [.ip (prR p), .im e.length (encL tm e)] (bl r) [.dead, .dead]) := by
  have hl1 := hB.l; have hl2 := hB.s; have hl3 := hB.a
  refine Ev.fnW (env := [(0, .ip (prR p)), (1, .im e.length (encL tm e))]) Try.func75 rfl nm_impl_reckonable rfl rfl (by kernel_rfl) (.cons rfl (.cons rfl .nil)) ?_
  refine go ?_
  refine WO.call rfl rfl rfl (implExpOk e (by omega)) rfl rfl ?_
  cases hE : expOk e
  · refine go ?_
    exact retV rfl (bool_eq hr (by simp [reckOk, hE])) rfl rfl
  refine go ?_
  refine WC.loopS (S := Nat) (fun i => [(0, .ip (prR p)), (10, .im e.length (encL tm e)), (11, i64 e.length), (12, i64 i)]) (fun i => i ≤ e.length ∧ ∀ j < i, nameOk p (e.getD j zt)) (fun i => e.length - i) 0 (.cons rfl (.cons rfl (.cons rfl (.cons rfl .nil)))) ⟨by simp, by simp⟩ ?_
  rintro i ⟨g1, g2⟩
  refine go ?_
  refine WO.cmp rfl rfl rfl rfl rfl (fun h3 => ?_) (fun h3 => ?_)
  · have hi : i < e.length := by omega
    have bad : ¬ nameOk p (e.getD i zt) → AV.sc (.bool false) = bl r := fun hb => bool_eq hr (by simp only [Bool.false_eq_true, false_iff]; exact fun h => hb (h.2 _ (getD_mem hi zt)))
    have good : nameOk p (e.getD i zt) → i + 1 ≤ e.length ∧ ∀ j < i + 1, nameOk p (e.getD j zt) := fun hg => ⟨by omega, fun j hj => by
      by_cases e : j = i
      · subst e; exact hg
      · exact g2 j (by omega)⟩
    refine go ?_
    refine WO.ixN (f := tm) zt rfl rfl rfl hi rfl ?_
    generalize hX : e.getD i zt = t at *
    unfold nameOk at bad good
    refine WO.ldIA rfl rfl rfl rfl rfl ?_
    refine WO.alloc rfl rfl ?_
    refine WO.stA rfl rfl rfl rfl rfl rfl rfl rfl rfl ?_
    refine go ?_
    refine WO.cmp rfl rfl rfl rfl rfl (fun c0 => ?_) (fun c0 => ?_)
    · refine go ?_
      refine WC.regionD ⟨[[], [0], [], [2], [0, 1, 2, 3]], [0, 1, 2, 3, 4], [], [20, 21, 22, 23, 24], [0, 1, 2, 3, 4], [([22, 23], [22, 23], false), ([22, 23], [22, 23], false), ([20, 21], [20, 21], false), ([20, 21], [20, 21], false), ([], [], false)]⟩ (by kernel_rfl) rfl ?_
      refine go ?_
      refine WD.call rfl rfl rfl rfl rfl rfl rfl (greatest p (by omega) h8) rfl rfl rfl ?_
      refine WD.cmp rfl rfl rfl rfl rfl rfl rfl rfl rfl rfl (fun c9 => ?_) (fun c9 => ?_)
      · refine go ?_
        exact retV rfl (bad (by omega)) rfl rfl
      · refine go ?_
        exact lpK.mk (i + 1) (.cons rfl (.cons rfl (.cons rfl (.cons rfl .nil)))) (good (by omega)) (by omega)
    refine go ?_
    refine WO.cmp rfl rfl rfl rfl rfl (fun c1 => ?_) (fun c1 => ?_)
    · refine go ?_
      refine WC.regionD ⟨[[], [0], [], [2], [0, 1, 2, 3]], [0, 1, 2, 3, 4], [], [27, 28, 29, 30, 31], [0, 1, 2, 3, 4], [([29, 30], [29, 30], false), ([29, 30], [29, 30], false), ([27, 28], [27, 28], false), ([27, 28], [27, 28], false), ([], [], false)]⟩ (by kernel_rfl) rfl ?_
      refine go ?_
      refine WD.call rfl rfl rfl rfl rfl rfl rfl (varsOf p hl1 hl2 (by omega) (by omega)) rfl rfl rfl ?_
      refine WD.cmp rfl rfl rfl rfl rfl rfl rfl rfl rfl rfl (fun c9 => ?_) (fun c9 => ?_)
      · refine go ?_
        exact retV rfl (bad (by omega)) rfl rfl
      · refine go ?_
        exact lpK.mk (i + 1) (.cons rfl (.cons rfl (.cons rfl (.cons rfl .nil)))) (good (by omega)) (by omega)
    refine go ?_
    refine WO.cmp rfl rfl rfl rfl rfl (fun c2 => ?_) (fun c2 => ?_)
    · refine go ?_
      refine WC.regionD ⟨[[], [0], [], [2], [2, 3], [2, 3, 4], [2, 3, 4, 5], [0, 1, 2, 3, 4, 5, 6]], [0, 1, 2, 3, 4, 5, 6, 7], [], [34, 35, 36, 37, 38, 39, 40, 41], [0, 1, 2, 3, 4, 5, 6, 7], [([36, 37, 38, 39, 40], [36, 37, 38, 39, 40], false), ([36, 37, 38, 39, 40], [36, 37, 38, 39, 40], false), ([34, 35], [34, 35], false), ([34, 35], [34, 35], false), ([34, 35], [34, 35], false), ([34, 35], [34, 35], false), ([34, 35], [34, 35], false), ([], [], false)]⟩ (by kernel_rfl) rfl ?_
      refine go ?_
      refine WD.cmp rfl rfl rfl rfl rfl rfl rfl rfl rfl rfl (fun c9 => ?_) (fun c9 => ?_)
      · refine go ?_
        exact retV rfl (bad (by omega)) rfl rfl
      · refine go ?_
        exact lpK.mk (i + 1) (.cons rfl (.cons rfl (.cons rfl (.cons rfl .nil)))) (good (by omega)) (by omega)
    refine go ?_
    exact lpK.mk (i + 1) (.cons rfl (.cons rfl (.cons rfl (.cons rfl .nil)))) (good (by omega)) (by omega)
  · refine go ?_
    exact retV rfl (bool_eq hr (by simp only [true_iff]; exact ⟨hE, all_of_getD zt fun j hj => g2 j (by omega)⟩)) rfl rfl
theorem mayStand (p : Pr) (h0 : 1 ≤ p.w) (h8 : p.w ≤ 8) (hB : PB p) (ht0 : 0 ≤ p.temps) (ht1 : p.temps ≤ 6) (e : List Tm) (he : e.length ≤ 1048576) {r : Bool} (hr : r = true ↔ mayOk p e) : Ev Try.prog X (.fn 95 [.ip (prR p), .im e.length (encL tm e)] (bl r) [.dead, .dead]) := by
  refine Ev.fnW (env := [(0, .ip (prR p)), (1, .im e.length (encL tm e))]) Try.func95 rfl nm_impl_mayStand rfl rfl (by kernel_rfl) (.cons rfl (.cons rfl .nil)) ?_
  refine go ?_
  refine WO.cmp rfl rfl rfl rfl rfl (fun c0 => ?_) (fun c0 => ?_)
  · refine go ?_
    exact retV rfl (bool_eq hr (by simp only [Bool.false_eq_true, false_iff]; exact fun h => by have := h.1; omega)) rfl rfl
  refine go ?_
  refine WO.callB rfl rfl rfl (reckonable p h0 h8 hB ht0 ht1 e he) rfl (fun c1 => ?_) (fun c1 => ?_)
  rotate_left
  · refine go ?_
    exact retV rfl (bool_eq hr (by simp only [Bool.false_eq_true, false_iff]; exact fun h => c1 h.2.1)) rfl rfl
  refine go ?_
  refine WC.loopS (S := Nat) (fun i => [(16, .im e.length (encL tm e)), (17, i64 e.length), (18, i64 i)]) (fun i => i ≤ e.length ∧ ∀ j < i, (e.getD j zt).op ≠ 17) (fun i => e.length - i) 0 (.cons rfl (.cons rfl (.cons rfl .nil))) ⟨by simp, by simp⟩ ?_
  rintro i ⟨g1, g2⟩
  refine go ?_
  refine WO.cmp rfl rfl rfl rfl rfl (fun h3 => ?_) (fun h3 => ?_)
  · have hi : i < e.length := by omega
    refine go ?_
    refine WO.ixN (f := tm) zt rfl rfl rfl hi rfl ?_
    refine WO.ldIA rfl rfl rfl rfl rfl ?_
    refine WO.alloc rfl rfl ?_
    refine WO.stA rfl rfl rfl rfl rfl rfl rfl rfl rfl ?_
    refine go ?_
    refine WO.cmp rfl rfl rfl rfl rfl (fun c2 => ?_) (fun c2 => ?_)
    · refine go ?_
      exact retV rfl (bool_eq hr (by simp only [Bool.false_eq_true, false_iff]; exact fun h => h.2.2 _ (getD_mem hi zt) c2)) rfl rfl
    · refine go ?_
      exact lpK.mk (i + 1) (.cons rfl (.cons rfl (.cons rfl .nil))) ⟨by omega, fun j hj => by
        by_cases e : j = i
        · subst e; exact c2
        · exact g2 j (by omega)⟩ (by omega)
  · refine go ?_
    exact retV rfl (bool_eq hr (by simp only [true_iff]; exact ⟨by omega, c1, all_of_getD zt fun j hj => g2 j (by omega)⟩)) rfl rfl
theorem holdsPlace (p : Pr) (h0 : 1 ≤ p.w) (h8 : p.w ≤ 8) (hB : PB p) (ht0 : 0 ≤ p.temps) (ht1 : p.temps ≤ 6) (e : List Tm) (he : e.length ≤ 1048576) (sh : Bool) {r : Bool} (hr : r = true ↔ if sh = true then mayOk p e else e.length = 0) : Ev Try.prog X (.fn 171 [.ip (prR p), .im e.length (encL tm e), bl sh] (bl r) [.dead, .dead, .dead]) := by
  refine Ev.fnW (env := [(0, .ip (prR p)), (1, .im e.length (encL tm e)), (2, bl sh)]) Try.func171 rfl nm_impl_holdsPlace rfl rfl (by kernel_rfl) (.cons rfl (.cons rfl (.cons rfl .nil))) ?_
  cases sh
  · simp only [Bool.false_eq_true, if_false] at hr
    refine go ?_
    refine WO.cmp rfl rfl rfl rfl rfl (fun c2 => ?_) (fun c2 => ?_) <;> refine go ?_
    · exact retV rfl (bool_eq hr (by simp only [true_iff]; omega)) rfl rfl
    · exact retV rfl (bool_eq hr (by simp only [Bool.false_eq_true, false_iff]; omega)) rfl rfl
  · simp only [if_true] at hr
    refine go ?_
    refine WO.call rfl rfl rfl (mayStand p h0 h8 hB ht0 ht1 e he hr) rfl rfl ?_
    refine go ?_
    exact retV rfl rfl rfl rfl
set_option maxHeartbeats 20000000 in
theorem stmtRight (p : Pr) (h0 : 1 ≤ p.w) (h8 : p.w ≤ 8) (hB : PB p) (ht0 : 0 ≤ p.temps) (ht1 : p.temps ≤ 6) (s : St) (rest : List AV) (hs1 : s.pl.length ≤ 1048576) (hs2 : s.ex.length ≤ 1048576) {r : Bool} (hr : r = true ↔ stOk p s) : Ev Try.prog X (.fn 108 [.ip (prR p), .ip (stR s ++ rest)] (bl r) [.dead, .dead]) := by
  have hl1 := hB.l; have hl2 := hB.s; have hl3 := hB.a
  have hv : varsN p = (p.lows.length : Int) + p.secs.length + p.temps := by unfold varsN insN; omega
  have hn : insN p = (p.lows.length : Int) + p.secs.length := by unfold insN; omega
  refine Ev.fnW (env := [(0, .ip (prR p)), (1, .ip (stR s ++ rest))]) Try.func108 rfl nm_impl_stmtRight rfl rfl (by kernel_rfl) (.cons rfl (.cons rfl .nil)) ?_
  have hcase : s.op = 0 ∨ s.op = 1 ∨ (s.op = 2 ∨ s.op = 6) ∨ s.op = 5 ∨ (s.op = 7 ∨ s.op = 9) ∨ (s.op = 3 ∨ s.op = 4 ∨ s.op = 8) ∨ ¬ (0 ≤ s.op ∧ s.op ≤ 9) := by omega
  rcases hcase with hc | hc | hc | hc | hc | hc | hc
  · rw [stOk0 hc] at hr
    refine go ?_
    repeat' (first
      | exact retV rfl (bool_eq hr (by simp only [Bool.false_eq_true, false_iff]; rintro ⟨_, _⟩; first | contradiction | omega)) rfl rfl
      | exact retV rfl (bool_eq hr (by simp only [Bool.false_eq_true, false_iff]; rintro ⟨_, _, _⟩; first | contradiction | omega)) rfl rfl
      | exact retV rfl (bool_eq hr (by simp only [Bool.false_eq_true, false_iff]; rintro ⟨_, _, _, _⟩; first | contradiction | omega)) rfl rfl
      | exact retV rfl (bool_eq hr (by simp only [true_iff]; repeat' (first | assumption | omega | refine ⟨?_, ?_⟩))) rfl rfl
      | (refine WO.call rfl rfl rfl (inputsOf p hl1 hl2) rfl rfl ?_; refine go ?_)
      | (refine WO.call rfl rfl rfl (varsOf p hl1 hl2 (by omega) (by omega)) rfl rfl ?_; refine go ?_)
      | (refine WO.callB rfl rfl rfl (holdsPlace p h0 h8 hB ht0 ht1 _ hs1 _) rfl (fun h => ?_) (fun h => ?_) <;> simp only [if_true, if_false, Bool.false_eq_true] at h <;> refine go ?_)
      | (refine WO.callB rfl rfl rfl (holdsPlace p h0 h8 hB ht0 ht1 _ hs2 _) rfl (fun h => ?_) (fun h => ?_) <;> simp only [if_true, if_false, Bool.false_eq_true] at h <;> refine go ?_)
      | (exfalso; omega)
      | (refine WO.cmp rfl rfl rfl rfl rfl (fun _ => ?_) (fun _ => ?_) <;> refine go ?_))
  · rw [stOk1 hc] at hr
    refine go ?_
    repeat' (first
      | exact retV rfl (bool_eq hr (by simp only [Bool.false_eq_true, false_iff]; rintro ⟨_, _⟩; first | contradiction | omega)) rfl rfl
      | exact retV rfl (bool_eq hr (by simp only [Bool.false_eq_true, false_iff]; rintro ⟨_, _, _⟩; first | contradiction | omega)) rfl rfl
      | exact retV rfl (bool_eq hr (by simp only [Bool.false_eq_true, false_iff]; rintro ⟨_, _, _, _⟩; first | contradiction | omega)) rfl rfl
      | exact retV rfl (bool_eq hr (by simp only [true_iff]; repeat' (first | assumption | omega | refine ⟨?_, ?_⟩))) rfl rfl
      | (refine WO.call rfl rfl rfl (inputsOf p hl1 hl2) rfl rfl ?_; refine go ?_)
      | (refine WO.call rfl rfl rfl (varsOf p hl1 hl2 (by omega) (by omega)) rfl rfl ?_; refine go ?_)
      | (refine WO.callB rfl rfl rfl (holdsPlace p h0 h8 hB ht0 ht1 _ hs1 _) rfl (fun h => ?_) (fun h => ?_) <;> simp only [if_true, if_false, Bool.false_eq_true] at h <;> refine go ?_)
      | (refine WO.callB rfl rfl rfl (holdsPlace p h0 h8 hB ht0 ht1 _ hs2 _) rfl (fun h => ?_) (fun h => ?_) <;> simp only [if_true, if_false, Bool.false_eq_true] at h <;> refine go ?_)
      | (exfalso; omega)
      | (refine WO.cmp rfl rfl rfl rfl rfl (fun _ => ?_) (fun _ => ?_) <;> refine go ?_))
  · rw [stOk26 hc] at hr
    rcases hc with hc | hc
    all_goals refine go ?_
    repeat' (first
      | exact retV rfl (bool_eq hr (by simp only [Bool.false_eq_true, false_iff]; rintro ⟨_, _⟩; first | contradiction | omega)) rfl rfl
      | exact retV rfl (bool_eq hr (by simp only [Bool.false_eq_true, false_iff]; rintro ⟨_, _, _⟩; first | contradiction | omega)) rfl rfl
      | exact retV rfl (bool_eq hr (by simp only [Bool.false_eq_true, false_iff]; rintro ⟨_, _, _, _⟩; first | contradiction | omega)) rfl rfl
      | exact retV rfl (bool_eq hr (by simp only [true_iff]; repeat' (first | assumption | omega | refine ⟨?_, ?_⟩))) rfl rfl
      | (refine WO.call rfl rfl rfl (inputsOf p hl1 hl2) rfl rfl ?_; refine go ?_)
      | (refine WO.call rfl rfl rfl (varsOf p hl1 hl2 (by omega) (by omega)) rfl rfl ?_; refine go ?_)
      | (refine WO.callB rfl rfl rfl (holdsPlace p h0 h8 hB ht0 ht1 _ hs1 _) rfl (fun h => ?_) (fun h => ?_) <;> simp only [if_true, if_false, Bool.false_eq_true] at h <;> refine go ?_)
      | (refine WO.callB rfl rfl rfl (holdsPlace p h0 h8 hB ht0 ht1 _ hs2 _) rfl (fun h => ?_) (fun h => ?_) <;> simp only [if_true, if_false, Bool.false_eq_true] at h <;> refine go ?_)
      | (exfalso; omega)
      | (refine WO.cmp rfl rfl rfl rfl rfl (fun _ => ?_) (fun _ => ?_) <;> refine go ?_))
  · rw [stOk5 hc] at hr
    refine go ?_
    repeat' (first
      | exact retV rfl (bool_eq hr (by simp only [Bool.false_eq_true, false_iff]; rintro ⟨_, _⟩; first | contradiction | omega)) rfl rfl
      | exact retV rfl (bool_eq hr (by simp only [Bool.false_eq_true, false_iff]; rintro ⟨_, _, _⟩; first | contradiction | omega)) rfl rfl
      | exact retV rfl (bool_eq hr (by simp only [Bool.false_eq_true, false_iff]; rintro ⟨_, _, _, _⟩; first | contradiction | omega)) rfl rfl
      | exact retV rfl (bool_eq hr (by simp only [true_iff]; repeat' (first | assumption | omega | refine ⟨?_, ?_⟩))) rfl rfl
      | (refine WO.call rfl rfl rfl (inputsOf p hl1 hl2) rfl rfl ?_; refine go ?_)
      | (refine WO.call rfl rfl rfl (varsOf p hl1 hl2 (by omega) (by omega)) rfl rfl ?_; refine go ?_)
      | (refine WO.callB rfl rfl rfl (holdsPlace p h0 h8 hB ht0 ht1 _ hs1 _) rfl (fun h => ?_) (fun h => ?_) <;> simp only [if_true, if_false, Bool.false_eq_true] at h <;> refine go ?_)
      | (refine WO.callB rfl rfl rfl (holdsPlace p h0 h8 hB ht0 ht1 _ hs2 _) rfl (fun h => ?_) (fun h => ?_) <;> simp only [if_true, if_false, Bool.false_eq_true] at h <;> refine go ?_)
      | (exfalso; omega)
      | (refine WO.cmp rfl rfl rfl rfl rfl (fun _ => ?_) (fun _ => ?_) <;> refine go ?_))
  · rw [stOk79 hc] at hr
    rcases hc with hc | hc
    all_goals refine go ?_
    repeat' (first
      | exact retV rfl (bool_eq hr (by simp only [Bool.false_eq_true, false_iff]; rintro ⟨_, _⟩; first | contradiction | omega)) rfl rfl
      | exact retV rfl (bool_eq hr (by simp only [Bool.false_eq_true, false_iff]; rintro ⟨_, _, _⟩; first | contradiction | omega)) rfl rfl
      | exact retV rfl (bool_eq hr (by simp only [Bool.false_eq_true, false_iff]; rintro ⟨_, _, _, _⟩; first | contradiction | omega)) rfl rfl
      | exact retV rfl (bool_eq hr (by simp only [true_iff]; repeat' (first | assumption | omega | refine ⟨?_, ?_⟩))) rfl rfl
      | (refine WO.call rfl rfl rfl (inputsOf p hl1 hl2) rfl rfl ?_; refine go ?_)
      | (refine WO.call rfl rfl rfl (varsOf p hl1 hl2 (by omega) (by omega)) rfl rfl ?_; refine go ?_)
      | (refine WO.callB rfl rfl rfl (holdsPlace p h0 h8 hB ht0 ht1 _ hs1 _) rfl (fun h => ?_) (fun h => ?_) <;> simp only [if_true, if_false, Bool.false_eq_true] at h <;> refine go ?_)
      | (refine WO.callB rfl rfl rfl (holdsPlace p h0 h8 hB ht0 ht1 _ hs2 _) rfl (fun h => ?_) (fun h => ?_) <;> simp only [if_true, if_false, Bool.false_eq_true] at h <;> refine go ?_)
      | (exfalso; omega)
      | (refine WO.cmp rfl rfl rfl rfl rfl (fun _ => ?_) (fun _ => ?_) <;> refine go ?_))
  · rw [stOk348 hc] at hr
    rcases hc with hc | hc | hc
    all_goals refine go ?_
    repeat' (first
      | exact retV rfl (bool_eq hr (by simp only [Bool.false_eq_true, false_iff]; rintro ⟨_, _⟩; first | contradiction | omega)) rfl rfl
      | exact retV rfl (bool_eq hr (by simp only [Bool.false_eq_true, false_iff]; rintro ⟨_, _, _⟩; first | contradiction | omega)) rfl rfl
      | exact retV rfl (bool_eq hr (by simp only [Bool.false_eq_true, false_iff]; rintro ⟨_, _, _, _⟩; first | contradiction | omega)) rfl rfl
      | exact retV rfl (bool_eq hr (by simp only [true_iff]; repeat' (first | assumption | omega | refine ⟨?_, ?_⟩))) rfl rfl
      | (refine WO.call rfl rfl rfl (inputsOf p hl1 hl2) rfl rfl ?_; refine go ?_)
      | (refine WO.call rfl rfl rfl (varsOf p hl1 hl2 (by omega) (by omega)) rfl rfl ?_; refine go ?_)
      | (refine WO.callB rfl rfl rfl (holdsPlace p h0 h8 hB ht0 ht1 _ hs1 _) rfl (fun h => ?_) (fun h => ?_) <;> simp only [if_true, if_false, Bool.false_eq_true] at h <;> refine go ?_)
      | (refine WO.callB rfl rfl rfl (holdsPlace p h0 h8 hB ht0 ht1 _ hs2 _) rfl (fun h => ?_) (fun h => ?_) <;> simp only [if_true, if_false, Bool.false_eq_true] at h <;> refine go ?_)
      | (exfalso; omega)
      | (refine WO.cmp rfl rfl rfl rfl rfl (fun _ => ?_) (fun _ => ?_) <;> refine go ?_))
  · replace hr : r = true ↔ False := hr.trans ⟨stOkN hc, fun h => h.elim⟩
    refine go ?_
    repeat' (first
      | exact retV rfl (bool_eq hr (by simp)) rfl rfl
      | (exfalso; omega)
      | (refine WO.cmp rfl rfl rfl rfl rfl (fun _ => ?_) (fun _ => ?_) <;> refine go ?_))
end Go.Eng.C
