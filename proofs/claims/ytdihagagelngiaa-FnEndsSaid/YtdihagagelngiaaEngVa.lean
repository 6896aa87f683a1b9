/- Contracts of functions, by the engine: terms and rows of terms (marks, comparisons). -/
import Derived.Test.YtdihagagelngiaaEngPk
import Derived.Test.YtdihagagelngiaaEngY
import Derived.Test.YtdihagagelngiaaEngTy
namespace Go.Eng.C
open Go Go.Eng Go.RowKit Go.Proofs
set_option linter.unusedVariables false
set_option linter.unusedSimpArgs false
set_option maxRecDepth 10000

variable {X : FuncId → List AV → AV → List AV → Prop}
abbrev i64 (n : Int) : AV := .sc (.int .i64 n)
abbrev bl (b : Bool) : AV := .sc (.bool b)
def tm (t : Tm) : List AV := [i64 t.op, i64 t.n]
instance : Wid tm 2 := ⟨fun _ => rfl⟩
instance : Pl tm := ⟨fun _ => rfl⟩
theorem Tm.ext2 {a b : Tm} : a = b ↔ a.op = b.op ∧ a.n = b.n := by
  cases a; cases b; simp
theorem fill_next {α : Type} {xs : List α} {z : α} {i : Nat} (h : i < xs.length) : (xs.take i ++ List.replicate (xs.length - i) z).set i (xs.getD i z) = xs.take (i + 1) ++ List.replicate (xs.length - (i + 1)) z := by
  have e : xs.length - i = (xs.length - (i + 1)) + 1 := by omega
  rw [List.set_append_right _ _ (by simp; omega), List.length_take, Nat.min_eq_left (by omega), Nat.sub_self, e, List.replicate_succ, List.set_cons_zero, List.getD_eq_getElem?_getD, List.getElem?_eq_getElem h]
  have t : xs.take (i + 1) = xs.take i ++ [xs[i]] := by rw [List.take_add_one, List.getElem?_eq_getElem h]; rfl
  rw [t, List.append_assoc]; rfl
theorem fill_len {α : Type} {xs : List α} {z : α} {i : Nat} (h : i ≤ xs.length) : (xs.take i ++ List.replicate (xs.length - i) z).length = xs.length := by simp; omega
theorem nm_laws_toTerm : (Try.f193.name == "runtime.NumGoroutine") = false := by decide
theorem nm_laws_eqTerm : (Try.f194.name == "runtime.NumGoroutine") = false := by decide
theorem nm_laws_toTermS : (Try.f178.name == "runtime.NumGoroutine") = false := by decide
theorem nm_laws_eqTermS : (Try.f179.name == "runtime.NumGoroutine") = false := by decide
theorem nm_laws_szTermS : (Try.f177.name == "runtime.NumGoroutine") = false := by decide
theorem nm_laws_markTermS : (Try.f157.name == "runtime.NumGoroutine") = false := by decide
theorem szTermS (n : Nat) (cs : List AV) (left : Int) (h0 : 0 ≤ left) (h1 : left ≤ 4611686018427387904) (hn : n ≤ 9223372036854775807) :
    Ev Try.prog X (.fn 177 [.im n cs, i64 left] (i64 (if left - n < 0 then -1 else left - n)) [.dead, .dead]) := by
  refine Ev.fnW (env := [(0, .im n cs), (1, i64 left)]) Try.func177 rfl nm_laws_szTermS rfl rfl (by kernel_rfl) (.cons rfl (.cons rfl .nil)) ?_
  refine go ?_
  refine WO.cmp rfl rfl rfl rfl rfl (fun h => ?_) (fun h => ?_)
  · refine go ?_
    exact retV rfl (by rw [if_pos h]) rfl rfl
  · refine go ?_
    exact retV rfl (by rw [if_neg h]) rfl rfl
theorem toTerm (t : Tm) : Ev Try.prog X (.fn 193 [.ag (tm t)] (.ag (tm t)) [.dead]) := by
  refine Ev.fnW (env := [(0, .ag (tm t))]) Try.func193 rfl nm_laws_toTerm rfl rfl (by kernel_rfl) (.cons rfl .nil) ?_
  refine go ?_
  refine WO.boxA rfl rfl rfl rfl rfl ?_
  refine WO.alloc rfl rfl ?_
  refine go ?_
  refine WO.alloc rfl rfl ?_
  refine go ?_
  refine WO.st rfl rfl rfl rfl rfl rfl rfl ?_
  refine go ?_
  refine WO.st (cs' := tm t) rfl rfl rfl rfl rfl rfl rfl ?_
  refine go ?_
  refine WO.stA rfl rfl rfl rfl rfl rfl rfl rfl rfl ?_
  refine go ?_
  exact retC rfl rfl rfl rfl rfl rfl rfl
theorem eqTerm (a b : Tm) {r : Bool} (hr : r = true ↔ a = b) : Ev Try.prog X (.fn 194 [.ag (tm a), .ag (tm b)] (bl r) [.dead, .dead]) := by
  rw [Tm.ext2] at hr
  refine Ev.fnW (env := [(0, .ag (tm a)), (1, .ag (tm b))]) Try.func194 rfl nm_laws_eqTerm rfl rfl (by kernel_rfl) (.cons rfl (.cons rfl .nil)) ?_
  refine go ?_
  refine WO.boxA rfl rfl rfl rfl rfl ?_
  refine WO.boxA rfl rfl rfl rfl rfl ?_
  refine go ?_
  refine WO.cmp rfl rfl rfl rfl rfl (fun h => ?_) (fun h => ?_)
  · refine go ?_
    exact retV rfl (by cases r <;> simp_all) rfl rfl
  · refine go ?_
    refine WO.cmp rfl rfl rfl rfl rfl (fun h2 => ?_) (fun h2 => ?_)
    · refine go ?_
      exact retV rfl (by cases r <;> simp_all) rfl rfl
    · refine go ?_
      exact retV rfl (by have : a.op = b.op := by omega
                         have : a.n = b.n := by omega
                         cases r <;> simp_all) rfl rfl
theorem toTermS (xs : List Tm) (hl : xs.length ≤ 8796093022208) : Ev Try.prog X (.fn 178 [.im xs.length (encL tm xs)] (.ow 53 2 xs.length (encL tm xs)) [.dead]) := by
  refine Ev.fnW (env := [(0, .im xs.length (encL tm xs))]) Try.func178 rfl nm_laws_toTermS rfl rfl (by kernel_rfl) (.cons rfl .nil) ?_
  refine go ?_
  refine WO.mk (f := tm) zt rfl rfl rfl rfl (by omega) (by unfold maxLen; omega) rfl ?_
  refine go ?_
  refine WC.loopS (S := Nat) (fun i => [(0, .im xs.length (encL tm xs)), (4, i64 i), (3, .ow 53 2 xs.length (encL tm (xs.take i ++ List.replicate (xs.length - i) zt)))]) (fun i => i ≤ xs.length) (fun i => xs.length - i) 0 (.cons rfl (.cons rfl (.cons rfl .nil))) (by simp) ?_
  intro i h1
  refine go ?_
  refine WO.cmp rfl rfl rfl rfl rfl (fun h => ?_) (fun h => ?_)
  · refine go ?_
    refine WO.ixI (f := tm) rfl zt rfl rfl (by omega) (by omega) rfl ?_
    refine WO.ldIA rfl rfl rfl rfl rfl ?_
    refine WO.call rfl rfl rfl (toTerm _) rfl rfl ?_
    refine WO.ixO rfl rfl rfl (by rw [encL_length, fill_len h1]; omega) rfl (by omega) (by omega) rfl rfl ?_
    refine WO.stEA (i := i) (xs.getD i zt) rfl rfl (by simp) rfl rfl rfl (by rw [fill_len h1]; omega) rfl ?_
    rw [fill_next (by omega)]
    refine go ?_
    exact lpK.mk (i + 1) (.cons rfl (.cons rfl (.cons rfl .nil))) (by omega) (by omega)
  · have e : i = xs.length := by omega
    subst e
    refine go ?_
    exact retO rfl rfl (by rw [encL_length, fill_len h1]) (by simp) rfl rfl
theorem getD_ext {α : Type} {a b : List α} {d : α} (h : a.length = b.length) (k : ∀ i < a.length, a.getD i d = b.getD i d) : a = b := by
  apply List.ext_getElem h
  intro i h1 h2
  have := k i h1
  simpa [List.getD_eq_getElem?_getD, h1, h2] using this
theorem eqTermS (a b : List Tm) (hl : a.length ≤ 1152921504606846976) {r : Bool} (hr : r = true ↔ a = b) : Ev Try.prog X (.fn 179 [.im a.length (encL tm a), .im b.length (encL tm b)] (bl r) [.dead, .dead]) := by
  refine Ev.fnW (env := [(0, .im a.length (encL tm a)), (1, .im b.length (encL tm b))]) Try.func179 rfl nm_laws_eqTermS rfl rfl (by kernel_rfl) (.cons rfl (.cons rfl .nil)) ?_
  refine go ?_
  refine WO.cmp rfl rfl rfl rfl rfl (fun h => ?_) (fun h => ?_)
  · refine go ?_
    exact retV rfl (by
      have : a ≠ b := by rintro rfl; exact h rfl
      cases r <;> simp_all) rfl rfl
  have h : a.length = b.length := by omega
  refine go ?_
  refine WC.loopS (S := Nat) (fun i => [(0, .im a.length (encL tm a)), (1, .im b.length (encL tm b)), (5, i64 i)]) (fun i => i ≤ a.length ∧ ∀ j < i, a.getD j zt = b.getD j zt) (fun i => a.length - i) 0 (.cons rfl (.cons rfl (.cons rfl .nil))) ⟨by simp, by simp⟩ ?_
  rintro i ⟨h1, h2⟩
  refine go ?_
  refine WO.cmp rfl rfl rfl rfl rfl (fun h3 => ?_) (fun h3 => ?_)
  · refine go ?_
    obtain ⟨q, hq⟩ : ∃ q : Bool, q = true ↔ a.getD (i : Int).toNat zt = b.getD (i : Int).toNat zt := by
      by_cases he : a.getD (i : Int).toNat zt = b.getD (i : Int).toNat zt
      · exact ⟨true, by simp only [he]⟩
      · exact ⟨false, by simp only [he]; simp⟩
    refine WC.regionD ⟨[[], [], [0, 1], [0, 1, 2], [], [], [4, 5], [4, 5, 6], [0, 1, 2, 3, 4, 5, 6, 7], [0, 1, 2, 3, 4, 5, 6, 7, 8]], [0, 1, 2, 3, 4, 5, 6, 7, 8, 9], [], [17, 18, 19, 20, 21, 22, 23, 24, 25, 26], [0, 1, 2, 3, 4, 5, 6, 7, 8, 9], [([18, 21, 22, 23, 24], [18, 21, 22, 23, 24], false), ([17, 21, 22, 23, 24], [17, 21, 22, 23, 24], false), ([21, 22, 23, 24], [21, 22, 23, 24], false), ([21, 22, 23, 24], [21, 22, 23, 24], false), ([17, 18, 19, 20, 22], [17, 18, 19, 20, 22], false), ([17, 18, 19, 20, 21], [17, 18, 19, 20, 21], false), ([17, 18, 19, 20], [17, 18, 19, 20], false), ([17, 18, 19, 20], [17, 18, 19, 20], false), ([], [], false), ([], [], false)]⟩ (by kernel_rfl) rfl ?_
    refine WD.q rfl rfl rfl rfl rfl (QE.mvIm (.move _) rfl) rfl rfl rfl ?_
    refine WD.q rfl rfl rfl rfl rfl (QE.mvSc (.move _) rfl) rfl rfl rfl ?_
    refine WD.q rfl rfl rfl rfl rfl (QE.ixI (f := tm) zt rfl rfl (by omega) (by omega)) rfl rfl rfl ?_
    refine WD.q rfl rfl rfl rfl rfl (QE.ldIA rfl rfl) rfl rfl rfl ?_
    refine WD.q rfl rfl rfl rfl rfl (QE.mvIm (.move _) rfl) rfl rfl rfl ?_
    refine WD.q rfl rfl rfl rfl rfl (QE.mvSc (.move _) rfl) rfl rfl rfl ?_
    refine WD.q rfl rfl rfl rfl rfl (QE.ixI (f := tm) zt rfl rfl (by omega) (by omega)) rfl rfl rfl ?_
    refine WD.q rfl rfl rfl rfl rfl (QE.ldIA rfl rfl) rfl rfl rfl ?_
    refine WD.q rfl rfl rfl rfl rfl (QE.call rfl rfl (eqTerm _ _ hq)) rfl rfl rfl ?_
    refine WD.q rfl rfl rfl rfl rfl (QE.not rfl) rfl rfl rfl ?_
    refine WD.nil ?_
    refine go ?_
    rw [Int.toNat_natCast] at hq
    refine WC.cond rfl (fun h4 => ?_) (fun h4 => ?_)
    · refine go ?_
      exact retV rfl (by
        have : a ≠ b := by rintro rfl; simp_all
        cases r <;> simp_all) rfl rfl
    · refine go ?_
      refine lpK.mk (i + 1) (.cons rfl (.cons rfl (.cons rfl .nil))) ⟨by omega, ?_⟩ (by omega)
      intro j hj
      by_cases e : j = i
      · subst e; apply hq.1; cases q <;> simp_all
      · exact h2 j (by omega)
  · refine go ?_
    exact retV rfl (by
      have : a = b := getD_ext h (fun j hj => h2 j (by omega))
      cases r <;> simp_all) rfl rfl

/-! Rows of rows; marks. -/
/-- What is held of the marks from m on. -/
def heldS : List Tm → Int → Int
  | [], m => m
  | t :: l, m => if t.op ≠ m then -1 else if t.n ≠ m + 1 then -1 else heldS l (m + 2)
theorem drop_getD {α : Type} {xs : List α} {i : Nat} (h : i < xs.length) (d : α) : xs.drop i = xs.getD i d :: xs.drop (i + 1) := by
  rw [List.drop_eq_getElem_cons h, List.getD_eq_getElem?_getD, List.getElem?_eq_getElem h]; rfl
def heldSS : List (List Tm) → Int → Int
  | [], m => m
  | l :: ls, m => if heldS l m < 0 then -1 else heldSS ls (heldS l m)
theorem heldS_le : ∀ (l : List Tm) (m : Int), heldS l m ≤ m + 2 * l.length ∨ heldS l m = -1
  | [], m => by simp [heldS]
  | t :: l, m => by
    unfold heldS
    split
    · exact .inr rfl
    · split
      · exact .inr rfl
      · rcases heldS_le l (m + 2) with h | h
        · left; rw [List.length_cons]; omega
        · exact .inr h
def tot : List (List Tm) → Nat
  | [] => 0
  | l :: ls => l.length + tot ls
end Go.Eng.C
