/- Contracts of functions, by the engine: what a term takes; ExpOk. -/
import Derived.Test.YtdihagagelngiaaEngVa
namespace Go.Eng.C
open Go Go.Eng Go.RowKit Go.Proofs
set_option linter.unusedVariables false
set_option linter.unusedSimpArgs false
set_option maxRecDepth 10000
variable {X : FuncId → List AV → AV → List AV → Prop}
theorem nm_spec_l1In : (Try.f72.name == "runtime.NumGoroutine") = false := by decide
theorem nm_spec_TakesOf : (Try.f139.name == "runtime.NumGoroutine") = false := by decide
theorem nm_impl_TakesOf : (Try.f128.name == "runtime.NumGoroutine") = false := by decide
theorem nm_spec_ExpOk : (Try.f138.name == "runtime.NumGoroutine") = false := by decide
theorem nm_impl_ExpOk : (Try.f125.name == "runtime.NumGoroutine") = false := by decide
theorem bool_eq {r b : Bool} {p : Prop} (hr : r = true ↔ p) (hb : b = true ↔ p) : AV.sc (.bool b) = bl r := by
  have : r = b := by cases r <;> cases b <;> simp_all
  rw [this]
theorem l1In (a b c : Int) {r : Bool} (hr : r = true ↔ b ≤ a ∧ a ≤ c) : Ev Try.prog X (.fn 72 [i64 a, i64 b, i64 c] (bl r) [.dead, .dead, .dead]) := by
  refine Ev.fnW (env := [(0, i64 a), (1, i64 b), (2, i64 c)]) Try.func72 rfl nm_spec_l1In rfl rfl (by kernel_rfl) (.cons rfl (.cons rfl (.cons rfl .nil))) ?_
  refine go ?_
  refine WO.cmp rfl rfl rfl rfl rfl (fun h => ?_) (fun h => ?_)
  · refine go ?_
    refine WO.cmp rfl rfl rfl rfl rfl (fun h2 => ?_) (fun h2 => ?_)
    · refine go ?_
      exact retV rfl (bool_eq hr (by simp; omega)) rfl rfl
    · refine go ?_
      exact retV rfl (bool_eq hr (by simp; omega)) rfl rfl
  · refine go ?_
    exact retV rfl (bool_eq hr (by simp; omega)) rfl rfl
theorem tks_tab : ∀ n < 18, ([0, 0, 1, 1, 1, 2, 2, 2, 2, 2, 2, 2, 2, 2, 2, 2, 2, 3] : List Int).getD n 0 = tks n := by decide
theorem tks_out {a : Int} (h : ¬ (0 ≤ a ∧ a ≤ 17)) : -1 = tks a := by
  unfold tks
  repeat' split
  all_goals omega
theorem specTakesOf (a : Int) : Ev Try.prog X (.fn 139 [i64 a] (i64 (tks a)) [.dead]) := by
  refine Ev.fnW (env := [(0, i64 a)]) Try.func139 rfl nm_spec_TakesOf rfl rfl (by kernel_rfl) (.cons rfl .nil) ?_
  refine go ?_
  by_cases h : 0 ≤ a ∧ a ≤ 17
  · refine WO.call rfl rfl rfl (l1In a 0 17 (r := true) (by simp [h])) rfl rfl ?_
    obtain ⟨n, rfl⟩ := Int.eq_ofNat_of_zero_le h.1
    refine go ?_
    refine WO.bs (cs := encL eI [0, 0, 1, 1, 1, 2, 2, 2, 2, 2, 2, 2, 2, 2, 2, 2, 2, 3]) rfl rfl rfl rfl rfl (by kernel_rfl) rfl ?_
    refine go ?_
    refine WO.ixM rfl rfl rfl (by decide) rfl (by omega) rfl rfl ?_
    refine WO.ldE (f := eI) (i := n) (j := 0) 0 rfl rfl rfl (by omega) rfl (by simp; omega) rfl rfl ?_
    refine go ?_
    exact retV rfl (congrArg i64 (tks_tab n (by omega))) rfl rfl
  · refine WO.call rfl rfl rfl (l1In a 0 17 (r := false) (by simp; omega)) rfl rfl ?_
    refine go ?_
    exact retV rfl (congrArg i64 (tks_out h)) rfl rfl
theorem implTakesOf (a : Int) : Ev Try.prog X (.fn 128 [i64 a] (i64 (tks a)) [.dead]) := by
  refine Ev.fnW (env := [(0, i64 a)]) Try.func128 rfl nm_impl_TakesOf rfl rfl (by kernel_rfl) (.cons rfl .nil) ?_
  refine go ?_
  repeat' (first
    | exact retV rfl (congrArg i64 (by unfold tks; repeat' split
                                       all_goals omega)) rfl rfl
    | (refine WO.cmp rfl rfl rfl rfl rfl (fun _ => ?_) (fun _ => ?_) <;> refine go ?_))
theorem exp_no {xs : List Tm} (h : hgt xs 0 = none) : AV.sc (.bool false) = bl (expOk xs) := by
  simp [expOk, h]
theorem exp_long {xs : List Tm} (h : ¬ xs.length ≤ 3000) : AV.sc (.bool false) = bl (expOk xs) := by
  simp [expOk, h]
theorem exp_end {xs : List Tm} {k : Int} {b : Bool} (hl : xs.length ≤ 3000) (h : hgt xs 0 = some k) (hb : b = true ↔ k = 1) : AV.sc (.bool b) = bl (expOk xs) := by
  have : b = expOk xs := by simp only [expOk, h, hl, Option.some.injEq]; cases b <;> simp_all
  rw [this]
set_option maxHeartbeats 8000000 in
theorem specExpOk (xs : List Tm) (hx : xs.length ≤ 1152921504606846976) : Ev Try.prog X (.fn 138 [.im xs.length (encL tm xs)] (bl (expOk xs)) [.dead]) := by
  refine Ev.fnW (env := [(0, .im xs.length (encL tm xs))]) Try.func138 rfl nm_spec_ExpOk rfl rfl (by kernel_rfl) (.cons rfl .nil) ?_
  refine go ?_
  refine WO.cmp rfl rfl rfl rfl rfl (fun h => ?_) (fun h => ?_)
  · refine go ?_
    exact retV rfl (exp_long (by omega)) rfl rfl
  have hl : xs.length ≤ 3000 := by omega
  refine go ?_
  refine WC.loopS (S := Nat × Int) (fun s => [(0, .im xs.length (encL tm xs)), (3, i64 s.2), (4, i64 s.1)]) (fun s => s.1 ≤ xs.length ∧ 0 ≤ s.2 ∧ s.2 ≤ s.1 ∧ hgt xs 0 = hgt (xs.drop s.1) s.2) (fun s => xs.length - s.1) (0, 0) (.cons rfl (.cons rfl (.cons rfl .nil))) ⟨by simp, by simp, by simp, by simp⟩ ?_
  rintro ⟨i, n⟩ ⟨h1, h0, hm, h2⟩
  dsimp only at h1 h0 hm h2 ⊢
  refine go ?_
  refine WO.cmp rfl rfl rfl rfl rfl (fun h3 => ?_) (fun h3 => ?_)
  · have hi : i < xs.length := by omega
    rw [drop_getD hi zt, hgt] at h2
    generalize hT : xs.getD i zt = t at *
    have no : ¬ (tmOk t ∧ tks t.op ≤ n) → hgt xs 0 = none := fun hn => by rw [h2, if_neg hn]
    have hr := tks_range t.op
    unfold tmOk at no h2
    refine go ?_
    refine WO.ixN (f := tm) zt rfl rfl rfl hi rfl ?_
    rw [hT]
    refine go ?_
    refine WO.call rfl rfl rfl (specTakesOf _) rfl rfl ?_
    refine go ?_
    refine WO.cmp rfl rfl rfl rfl rfl (fun h4 => ?_) (fun h4 => ?_)
    · refine go ?_
      exact retV rfl (exp_no (no (by omega))) rfl rfl
    refine go ?_
    refine WO.cmp rfl rfl rfl rfl rfl (fun h5 => ?_) (fun h5 => ?_)
    · refine go ?_
      exact retV rfl (exp_no (no (by omega))) rfl rfl
    refine go ?_
    refine WO.ixN (f := tm) zt rfl rfl rfl hi rfl ?_
    rw [hT]
    refine go ?_
    by_cases h6 : 0 ≤ t.n ∧ t.n ≤ 255
    · refine WO.call rfl rfl rfl (l1In t.n 0 255 (r := true) (by simp [h6])) rfl rfl ?_
      refine go ?_
      refine WO.ixN (f := tm) zt rfl rfl rfl hi rfl ?_
      rw [hT]
      refine go ?_
      have fin : (t.op > 2 → t.n = 0) → hgt xs 0 = hgt (xs.drop (i + 1)) (n - tks t.op + 1) := fun h7 => by
        rw [h2, if_pos ⟨⟨by omega, h6.1, h6.2, h7⟩, by omega⟩]; congr 1; omega
      refine WO.cmp rfl rfl rfl rfl rfl (fun h7 => ?_) (fun h7 => ?_)
      · refine go ?_
        refine WO.ixN (f := tm) zt rfl rfl rfl hi rfl ?_
        rw [hT]
        refine go ?_
        refine WO.cmp rfl rfl rfl rfl rfl (fun h8 => ?_) (fun h8 => ?_)
        · refine go ?_
          exact retV rfl (exp_no (no (by omega))) rfl rfl
        · refine go ?_
          exact lpK.mk (i + 1, n - tks t.op + 1) (.cons rfl (.cons rfl (.cons rfl .nil))) ⟨by simp only; omega, by simp only; omega, by simp only; omega, fin (by omega)⟩ (by simp only; omega)
      · refine go ?_
        exact lpK.mk (i + 1, n - tks t.op + 1) (.cons rfl (.cons rfl (.cons rfl .nil))) ⟨by simp only; omega, by simp only; omega, by simp only; omega, fin (by omega)⟩ (by simp only; omega)
    · refine WO.call rfl rfl rfl (l1In t.n 0 255 (r := false) (by simp; omega)) rfl rfl ?_
      refine go ?_
      exact retV rfl (exp_no (no (by omega))) rfl rfl
  · have e : i = xs.length := by omega
    subst e
    rw [List.drop_length, hgt] at h2
    refine go ?_
    refine WO.cmp rfl rfl rfl rfl rfl (fun h4 => ?_) (fun h4 => ?_)
    · refine go ?_
      exact retV rfl (exp_end hl h2 (by simp [h4])) rfl rfl
    · refine go ?_
      exact retV rfl (exp_end hl h2 (by simp [h4])) rfl rfl
set_option maxHeartbeats 8000000 in
theorem implExpOk (xs : List Tm) (hx : xs.length ≤ 1152921504606846976) : Ev Try.prog X (.fn 125 [.im xs.length (encL tm xs)] (bl (expOk xs)) [.dead]) := by
  refine Ev.fnW (env := [(0, .im xs.length (encL tm xs))]) Try.func125 rfl nm_impl_ExpOk rfl rfl (by kernel_rfl) (.cons rfl .nil) ?_
  refine go ?_
  refine WO.cmp rfl rfl rfl rfl rfl (fun h => ?_) (fun h => ?_)
  · have : xs = [] := List.length_eq_zero_iff.1 (by omega)
    subst this
    refine go ?_
    exact retV rfl (congrArg bl (show false = expOk [] by decide)) rfl rfl
  refine go ?_
  refine WO.cmp rfl rfl rfl rfl rfl (fun h => ?_) (fun h => ?_)
  · refine go ?_
    exact retV rfl (exp_long (by omega)) rfl rfl
  have hl : xs.length ≤ 3000 := by omega
  refine go ?_
  refine WC.loopS (S := Nat × Int) (fun s => [(15, .im xs.length (encL tm xs)), (16, i64 xs.length), (3, i64 s.2), (17, i64 s.1)]) (fun s => s.1 ≤ xs.length ∧ 0 ≤ s.2 ∧ s.2 ≤ s.1 ∧ hgt xs 0 = hgt (xs.drop s.1) s.2) (fun s => xs.length - s.1) (0, 0) (.cons rfl (.cons rfl (.cons rfl (.cons rfl .nil)))) ⟨by simp, by simp, by simp, by simp⟩ ?_
  rintro ⟨i, n⟩ ⟨h1, h0, hm, h2⟩
  dsimp only at h1 h0 hm h2 ⊢
  refine go ?_
  refine WO.cmp rfl rfl rfl rfl rfl (fun h3 => ?_) (fun h3 => ?_)
  · have hi : i < xs.length := by omega
    rw [drop_getD hi zt, hgt] at h2
    generalize hT : xs.getD i zt = t at *
    have no : ¬ (tmOk t ∧ tks t.op ≤ n) → hgt xs 0 = none := fun hn => by rw [h2, if_neg hn]
    have hr := tks_range t.op
    unfold tmOk at no h2
    refine go ?_
    refine WO.ixN (f := tm) zt rfl rfl rfl hi rfl ?_
    rw [hT]
    refine WO.ldIA rfl rfl rfl rfl rfl ?_
    refine WO.alloc rfl rfl ?_
    refine WO.stA rfl rfl rfl rfl rfl rfl rfl rfl rfl ?_
    refine go ?_
    refine WO.call rfl rfl rfl (implTakesOf _) rfl rfl ?_
    have fin : (t.op > 2 → t.n = 0) → 0 ≤ tks t.op → tks t.op ≤ n → 0 ≤ t.n → t.n ≤ 255 → hgt xs 0 = hgt (xs.drop (i + 1)) (n + (1 - tks t.op)) := fun h7 h8 h9 h10 h11 => by
      rw [h2, if_pos ⟨⟨h8, h10, h11, h7⟩, h9⟩]
    refine go ?_
    repeat' (first
      | exact retV rfl (exp_no (no (by omega))) rfl rfl
      | exact lpK.mk (i + 1, n + (1 - tks t.op)) (.cons rfl (.cons rfl (.cons rfl (.cons rfl .nil)))) ⟨by simp only; omega, by simp only; omega, by simp only; omega, fin (by omega) (by omega) (by omega) (by omega) (by omega)⟩ (by simp only; omega)
      | (refine WO.cmp rfl rfl rfl rfl rfl (fun _ => ?_) (fun _ => ?_) <;> refine go ?_))
  · have e : i = xs.length := by omega
    subst e
    rw [List.drop_length, hgt] at h2
    refine go ?_
    refine WO.cmp rfl rfl rfl rfl rfl (fun h4 => ?_) (fun h4 => ?_)
    · refine go ?_
      exact retV rfl (exp_end hl h2 (by simp [h4])) rfl rfl
    · refine go ?_
      exact retV rfl (exp_end hl h2 (by simp [h4])) rfl rfl
end Go.Eng.C
