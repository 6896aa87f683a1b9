/- The law FnExactPartsOf answers true, by the engine. -/
import Derived.Test.YtlaliacfonfflaaEngVe
import Derived.Test.YtlaliacfonfflaaEngVb
namespace Go.Eng.C
open Go Go.Eng Go.RowKit Go.Proofs
set_option linter.unusedVariables false
set_option linter.unusedSimpArgs false
set_option maxRecDepth 10000
variable {X : FuncId → List AV → AV → List AV → Prop}
theorem nm4 : (Try.f4.name == "runtime.NumGoroutine") = false := by decide
theorem held_mark : ∀ (l : List Tm) (m : Int), heldS (markS l m) m = m + 2 * l.length
  | [], m => by simp [markS, heldS]
  | t :: l, m => by
    simp only [markS, heldS, ne_eq, not_true_eq_false, if_false, held_mark l, List.length_cons]
    omega
theorem held_markSS : ∀ (l : List (List Tm)) (m : Int), 0 ≤ m → heldSS (markSS l m) m = m + 2 * tot l
  | [], m, _ => by simp [markSS, heldSS, tot]
  | t :: l, m, h => by
    simp only [markSS, heldSS, held_mark, tot]
    rw [if_neg (by omega), held_markSS l _ (by omega)]
    omega
theorem tot_mark : ∀ (l : List (List Tm)) (m : Int), tot (markSS l m) = tot l
  | [], m => rfl
  | t :: l, m => by simp only [markSS, tot, markS_len, tot_mark l]
theorem tot_flat : ∀ (l : List (List Tm)), tot l = l.flatten.length
  | [] => rfl
  | t :: l => by simp [tot, tot_flat l]
theorem noIm_rows : ∀ (l : List (List Tm)), noImL (encL (eO 40 2 tm) l) = true
  | [] => rfl
  | t :: l => by rw [encL_cons]; simp only [eO, List.cons_append, List.nil_append, noImL, noIm, noIm_tm, noIm_rows l, Bool.and_self]
theorem PartsR.tot {x : List Tm} {ks : List (List Tm)} (h : PartsR x ks) : tot ks ≤ 3000 ∧ ks.length ≤ 3 := by
  cases h with
  | ok h hl hk ht h3 => rw [tot_flat]; simp at hl; exact ⟨by simp; omega, h3⟩
  | no h => exact ⟨by simp [C.tot], by simp⟩
theorem mem_tot {l : List Tm} : ∀ {ks : List (List Tm)}, l ∈ ks → l.length ≤ tot ks
  | k :: ks, h => by
    rcases List.mem_cons.1 h with rfl | h
    · simp only [tot]; omega
    · have := mem_tot h; simp only [tot]; omega
theorem castRows {x : List Tm} {ks : List (List Tm)} (hP : PartsR x ks) {r : AV} (hr : r = bif expOk x then rows ks else .nl) {all : Array Oper} {l : List Oper} {R : (Nat → AV) → Prop} {env : Env} (d : Nat) (k : WO Try.prog X all l (look ((d, rows ks) :: env)) R) : WO Try.prog X all l (look ((d, r) :: env)) R := by
  subst hr
  cases hP with
  | ok h hl hk ht h3 => rw [h]; exact k
  | no h =>
    rw [h]
    refine WO.castO (r := d) (e := 25) (sz := 1) (by omega) (by simp [look]) ?_
    rw [look_dup]
    exact k
set_option maxHeartbeats 8000000 in
theorem fnExactPartsOf (x : List Tm) (hx : x.length ≤ 9223372036854775807) : Ev Try.prog X (.fn 4 [.im x.length (encL tm x)] (bl true) [.dead]) := by
  refine Ev.fnW (env := [(0, .im x.length (encL tm x))]) Try.func4 rfl nm4 rfl rfl (by kernel_rfl) (.cons rfl .nil) ?_
  refine go ?_
  refine WO.call rfl rfl rfl (szTermS _ _ 1048576 (by omega) (by omega) hx) rfl rfl ?_
  by_cases h0 : (1048576 : Int) - x.length < 0
  · rw [if_pos h0]
    refine go ?_
    exact retV rfl rfl rfl rfl
  rw [if_neg h0]
  have hl : x.length ≤ 1048576 := by omega
  obtain ⟨ks, hP⟩ := PartsR.ex x
  obtain ⟨htot, hk3⟩ := hP.tot
  have hks : ∀ l ∈ ks, l.length ≤ 1152921504606846976 := fun l h => by have := mem_tot h; omega
  refine go ?_
  refine WO.call rfl rfl rfl (toTermS x (by omega)) rfl rfl ?_
  refine WO.callF rfl (.cons (frz1 rfl rfl) .nil) (specPartsOf x ks (by omega) hP) (by simp only [noIm, noIm_rows]) rfl rfl ?_
  refine go ?_
  refine WO.call rfl rfl rfl (toTermS x (by omega)) rfl rfl ?_
  refine go ?_
  obtain ⟨r, hr⟩ : ∃ r : AV, r = bif expOk x then rows ks else .nl := ⟨_, rfl⟩
  have hI := implPartsOf (X := X) x ks (by omega) hP hr
  have hni : noIm r = true := by rw [hr]; cases expOk x <;> simp [noIm, noIm_rows]
  have hnr : ∀ d, nrA d r = true := fun d => by rw [hr]; cases expOk x <;> rfl
  refine WO.callF rfl (.cons (frz1 rfl rfl) .nil) hI hni rfl (hnr _) ?_
  refine castRows hP hr 22 ?_
  refine go ?_
  refine WO.callF rfl (.cons (frz2 (f := tm) rfl rfl) (.cons (frz2 (f := tm) rfl rfl) .nil)) (eqTermSS ks ks (by omega) hks (r := true) (by simp)) rfl rfl rfl ?_
  refine go ?_
  refine WO.call rfl rfl rfl (toTermS x (by omega)) rfl rfl ?_
  refine WO.callF rfl (.cons (frz1 rfl rfl) (.cons (frz1 rfl rfl) .nil)) (eqTermS x x (by omega) (r := true) (by simp)) rfl rfl rfl ?_
  refine go ?_
  refine WO.callR (xs := [.tmp 33]) rfl rfl rfl (encL_length _) rfl rfl (markTermS x 1 (by omega) (by omega) (by omega)) rfl (by simp only [noIm, noIm_tm]) rfl rfl rfl rfl ?_
  refine go ?_
  refine WO.callF rfl (.cons (frz2 (f := tm) rfl rfl) (.cons (frz2 (f := tm) rfl rfl) .nil)) (eqTermSS ks ks (by omega) hks (r := true) (by simp)) rfl rfl rfl ?_
  refine go ?_
  refine WO.callR (xs := [.tmp 44]) rfl rfl rfl (encL_length _) rfl rfl (markTermSS ks 1 (by omega) (by omega) hks (by omega)) rfl (by simp only [noIm, noIm_rows]) rfl rfl rfl rfl ?_
  refine go ?_
  have hheld := heldTermSS (X := X) (markSS ks 1) 1 (by omega) (by rw [markSS_len]; omega) (by rw [tot_mark]; omega) (held_markSS ks 1 (by omega))
  refine WO.callF rfl (.cons (frz2 (f := tm) rfl (markSS_len _ _)) (.cons (.plain _ rfl) .nil)) (by rw [markSS_len] at hheld; exact hheld) rfl rfl rfl ?_
  refine go ?_
  refine WO.call rfl rfl rfl (toTermS x (by omega)) rfl rfl ?_
  refine WO.callF rfl (.cons (frz1 rfl rfl) .nil) hI hni rfl (hnr _) ?_
  refine castRows hP hr 56 ?_
  refine go ?_
  refine WO.callF rfl (.cons (frz2 (f := tm) rfl rfl) (.cons (frz2 (f := tm) rfl rfl) .nil)) (eqTermSS ks ks (by omega) hks (r := true) (by simp)) rfl rfl rfl ?_
  refine go ?_
  refine WO.callF rfl (.cons (frz2 (f := tm) rfl (markSS_len _ _)) (.cons (.plain _ rfl) .nil)) (by rw [markSS_len] at hheld; exact hheld) rfl rfl rfl ?_
  refine go ?_
  exact retV rfl rfl rfl rfl
end Go.Eng.C
