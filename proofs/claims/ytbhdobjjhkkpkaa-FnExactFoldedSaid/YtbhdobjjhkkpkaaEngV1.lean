/- Contracts of functions, by the engine: marks, expressions, parts. -/
import Derived.Test.YtbhdobjjhkkpkaaEngPa
import Derived.Test.YtbhdobjjhkkpkaaEngB4
import Derived.Test.YtbhdobjjhkkpkaaEngTy
/- Contracts of functions, by the engine: terms and rows of terms (marks, comparisons). -/
namespace Go.Eng.C
open Go Go.Eng Go.RowKit Go.Proofs
set_option linter.unusedVariables false
set_option linter.unusedSimpArgs false
set_option maxRecDepth 10000

variable {X : FuncId → List AV → AV → List AV → Prop}
abbrev i64 (n : Int) : AV := .sc (.int .i64 n)
abbrev bl (b : Bool) : AV := .sc (.bool b)
def tm (t : Tm) : List AV := [i64 t.op, i64 t.n]
instance : Wid tm 2 := ⟨fun _ => rfl⟩
instance : Pl tm := ⟨fun _ => rfl⟩
theorem Tm.ext2 {a b : Tm} : a = b ↔ a.op = b.op ∧ a.n = b.n := by
  cases a; cases b; simp
theorem fill_next {α : Type} {xs : List α} {z : α} {i : Nat} (h : i < xs.length) : (xs.take i ++ List.replicate (xs.length - i) z).set i (xs.getD i z) = xs.take (i + 1) ++ List.replicate (xs.length - (i + 1)) z := by
  have e : xs.length - i = (xs.length - (i + 1)) + 1 := by omega
  rw [List.set_append_right _ _ (by simp; omega), List.length_take, Nat.min_eq_left (by omega), Nat.sub_self, e, List.replicate_succ, List.set_cons_zero, List.getD_eq_getElem?_getD, List.getElem?_eq_getElem h]
  have t : xs.take (i + 1) = xs.take i ++ [xs[i]] := by rw [List.take_add_one, List.getElem?_eq_getElem h]; rfl
  rw [t, List.append_assoc]; rfl
theorem fill_len {α : Type} {xs : List α} {z : α} {i : Nat} (h : i ≤ xs.length) : (xs.take i ++ List.replicate (xs.length - i) z).length = xs.length := by simp; omega
theorem nm_laws_toTerm : (Try.f73.name == "runtime.NumGoroutine") = false := by decide
theorem nm_laws_eqTerm : (Try.f80.name == "runtime.NumGoroutine") = false := by decide
theorem nm_laws_toTermS : (Try.f19.name == "runtime.NumGoroutine") = false := by decide
theorem nm_laws_eqTermS : (Try.f23.name == "runtime.NumGoroutine") = false := by decide
theorem nm_laws_szTermS : (Try.f15.name == "runtime.NumGoroutine") = false := by decide
theorem nm_laws_heldTermS : (Try.f35.name == "runtime.NumGoroutine") = false := by decide
theorem nm_laws_markTermS : (Try.f34.name == "runtime.NumGoroutine") = false := by decide
theorem szTermS (n : Nat) (cs : List AV) (left : Int) (h0 : 0 ≤ left) (h1 : left ≤ 4611686018427387904) (hn : n ≤ 9223372036854775807) :
    Ev Try.prog X (.fn 15 [.im n cs, i64 left] (i64 (if left - n < 0 then -1 else left - n)) [.dead, .dead]) := by
  refine Ev.fnW (env := [(0, .im n cs), (1, i64 left)]) Try.func15 rfl nm_laws_szTermS rfl rfl (by kernel_rfl) (.cons rfl (.cons rfl .nil)) ?_
  refine go ?_
  refine WO.cmp rfl rfl rfl rfl rfl (fun h => ?_) (fun h => ?_)
  · refine go ?_
    exact retV rfl (by rw [if_pos h]) rfl rfl
  · refine go ?_
    exact retV rfl (by rw [if_neg h]) rfl rfl
theorem toTerm (t : Tm) : Ev Try.prog X (.fn 73 [.ag (tm t)] (.ag (tm t)) [.dead]) := by
  refine Ev.fnW (env := [(0, .ag (tm t))]) Try.func73 rfl nm_laws_toTerm rfl rfl (by kernel_rfl) (.cons rfl .nil) ?_
  refine go ?_
  refine WO.boxA rfl rfl rfl rfl rfl ?_
  refine WO.alloc rfl rfl ?_
  refine go ?_
  refine WO.alloc rfl rfl ?_
  refine go ?_
  refine WO.st rfl rfl rfl rfl rfl rfl rfl ?_
  refine go ?_
  refine WO.st (cs' := tm t) rfl rfl rfl rfl rfl rfl rfl ?_
  refine go ?_
  refine WO.stA rfl rfl rfl rfl rfl rfl rfl rfl rfl ?_
  refine go ?_
  exact retC rfl rfl rfl rfl rfl rfl rfl
theorem eqTerm (a b : Tm) {r : Bool} (hr : r = true ↔ a = b) : Ev Try.prog X (.fn 80 [.ag (tm a), .ag (tm b)] (bl r) [.dead, .dead]) := by
  rw [Tm.ext2] at hr
  refine Ev.fnW (env := [(0, .ag (tm a)), (1, .ag (tm b))]) Try.func80 rfl nm_laws_eqTerm rfl rfl (by kernel_rfl) (.cons rfl (.cons rfl .nil)) ?_
  refine go ?_
  refine WO.boxA rfl rfl rfl rfl rfl ?_
  refine WO.boxA rfl rfl rfl rfl rfl ?_
  refine go ?_
  refine WO.cmp rfl rfl rfl rfl rfl (fun h => ?_) (fun h => ?_)
  · refine go ?_
    exact retV rfl (by cases r <;> simp_all) rfl rfl
  · refine go ?_
    refine WO.cmp rfl rfl rfl rfl rfl (fun h2 => ?_) (fun h2 => ?_)
    · refine go ?_
      exact retV rfl (by cases r <;> simp_all) rfl rfl
    · refine go ?_
      exact retV rfl (by have : a.op = b.op := by omega
                         have : a.n = b.n := by omega
                         cases r <;> simp_all) rfl rfl
theorem toTermS (xs : List Tm) (hl : xs.length ≤ 8796093022208) : Ev Try.prog X (.fn 19 [.im xs.length (encL tm xs)] (.ow 93 2 xs.length (encL tm xs)) [.dead]) := by
  refine Ev.fnW (env := [(0, .im xs.length (encL tm xs))]) Try.func19 rfl nm_laws_toTermS rfl rfl (by kernel_rfl) (.cons rfl .nil) ?_
  refine go ?_
  refine WO.mk (f := tm) zt rfl rfl rfl rfl (by omega) (by unfold maxLen; omega) rfl ?_
  refine go ?_
  refine WC.loopS (S := Nat) (fun i => [(0, .im xs.length (encL tm xs)), (4, i64 i), (3, .ow 93 2 xs.length (encL tm (xs.take i ++ List.replicate (xs.length - i) zt)))]) (fun i => i ≤ xs.length) (fun i => xs.length - i) 0 (.cons rfl (.cons rfl (.cons rfl .nil))) (by simp) ?_
  intro i h1
  refine go ?_
  refine WO.cmp rfl rfl rfl rfl rfl (fun h => ?_) (fun h => ?_)
  · refine go ?_
    refine WO.ixI (f := tm) rfl zt rfl rfl (by omega) (by omega) rfl ?_
    refine WO.ldIA rfl rfl rfl rfl rfl ?_
    refine WO.call rfl rfl rfl (toTerm _) rfl rfl ?_
    refine WO.ixO rfl rfl rfl (by rw [encL_length, fill_len h1]; omega) rfl (by omega) (by omega) rfl rfl ?_
    refine WO.stEA (i := i) (xs.getD i zt) rfl rfl (by simp) rfl rfl rfl (by rw [fill_len h1]; omega) rfl ?_
    rw [fill_next (by omega)]
    refine go ?_
    exact lpK.mk (i + 1) (.cons rfl (.cons rfl (.cons rfl .nil))) (by omega) (by omega)
  · have e : i = xs.length := by omega
    subst e
    refine go ?_
    exact retO rfl rfl (by rw [encL_length, fill_len h1]) (by simp) rfl rfl
theorem getD_ext {α : Type} {a b : List α} {d : α} (h : a.length = b.length) (k : ∀ i < a.length, a.getD i d = b.getD i d) : a = b := by
  apply List.ext_getElem h
  intro i h1 h2
  have := k i h1
  simpa [List.getD_eq_getElem?_getD, h1, h2] using this
theorem eqTermS (a b : List Tm) (hl : a.length ≤ 1152921504606846976) {r : Bool} (hr : r = true ↔ a = b) : Ev Try.prog X (.fn 23 [.im a.length (encL tm a), .im b.length (encL tm b)] (bl r) [.dead, .dead]) := by
  refine Ev.fnW (env := [(0, .im a.length (encL tm a)), (1, .im b.length (encL tm b))]) Try.func23 rfl nm_laws_eqTermS rfl rfl (by kernel_rfl) (.cons rfl (.cons rfl .nil)) ?_
  refine go ?_
  refine WO.cmp rfl rfl rfl rfl rfl (fun h => ?_) (fun h => ?_)
  · refine go ?_
    exact retV rfl (by
      have : a ≠ b := by rintro rfl; exact h rfl
      cases r <;> simp_all) rfl rfl
  have h : a.length = b.length := by omega
  refine go ?_
  refine WC.loopS (S := Nat) (fun i => [(0, .im a.length (encL tm a)), (1, .im b.length (encL tm b)), (5, i64 i)]) (fun i => i ≤ a.length ∧ ∀ j < i, a.getD j zt = b.getD j zt) (fun i => a.length - i) 0 (.cons rfl (.cons rfl (.cons rfl .nil))) ⟨by simp, by simp⟩ ?_
  rintro i ⟨h1, h2⟩
  refine go ?_
  refine WO.cmp rfl rfl rfl rfl rfl (fun h3 => ?_) (fun h3 => ?_)
  · refine go ?_
    obtain ⟨q, hq⟩ : ∃ q : Bool, q = true ↔ a.getD (i : Int).toNat zt = b.getD (i : Int).toNat zt := by
      by_cases he : a.getD (i : Int).toNat zt = b.getD (i : Int).toNat zt
      · exact ⟨true, by simp only [he]⟩
      · exact ⟨false, by simp only [he]; simp⟩
    refine WC.regionD ⟨[[], [], [0, 1], [0, 1, 2], [], [], [4, 5], [4, 5, 6], [0, 1, 2, 3, 4, 5, 6, 7], [0, 1, 2, 3, 4, 5, 6, 7, 8]], [0, 1, 2, 3, 4, 5, 6, 7, 8, 9], [], [17, 18, 19, 20, 21, 22, 23, 24, 25, 26], [0, 1, 2, 3, 4, 5, 6, 7, 8, 9], [([18, 21, 22, 23, 24], [18, 21, 22, 23, 24], false), ([17, 21, 22, 23, 24], [17, 21, 22, 23, 24], false), ([21, 22, 23, 24], [21, 22, 23, 24], false), ([21, 22, 23, 24], [21, 22, 23, 24], false), ([17, 18, 19, 20, 22], [17, 18, 19, 20, 22], false), ([17, 18, 19, 20, 21], [17, 18, 19, 20, 21], false), ([17, 18, 19, 20], [17, 18, 19, 20], false), ([17, 18, 19, 20], [17, 18, 19, 20], false), ([], [], false), ([], [], false)]⟩ (by kernel_rfl) rfl ?_
    refine WD.q rfl rfl rfl rfl rfl (QE.mvIm (.move _) rfl) rfl rfl rfl ?_
    refine WD.q rfl rfl rfl rfl rfl (QE.mvSc (.move _) rfl) rfl rfl rfl ?_
    refine WD.q rfl rfl rfl rfl rfl (QE.ixI (f := tm) zt rfl rfl (by omega) (by omega)) rfl rfl rfl ?_
    refine WD.q rfl rfl rfl rfl rfl (QE.ldIA rfl rfl) rfl rfl rfl ?_
    refine WD.q rfl rfl rfl rfl rfl (QE.mvIm (.move _) rfl) rfl rfl rfl ?_
    refine WD.q rfl rfl rfl rfl rfl (QE.mvSc (.move _) rfl) rfl rfl rfl ?_
    refine WD.q rfl rfl rfl rfl rfl (QE.ixI (f := tm) zt rfl rfl (by omega) (by omega)) rfl rfl rfl ?_
    refine WD.q rfl rfl rfl rfl rfl (QE.ldIA rfl rfl) rfl rfl rfl ?_
    refine WD.q rfl rfl rfl rfl rfl (QE.call rfl rfl (eqTerm _ _ hq)) rfl rfl rfl ?_
    refine WD.q rfl rfl rfl rfl rfl (QE.not rfl) rfl rfl rfl ?_
    refine WD.nil ?_
    refine go ?_
    rw [Int.toNat_natCast] at hq
    refine WC.cond rfl (fun h4 => ?_) (fun h4 => ?_)
    · refine go ?_
      exact retV rfl (by
        have : a ≠ b := by rintro rfl; simp_all
        cases r <;> simp_all) rfl rfl
    · refine go ?_
      refine lpK.mk (i + 1) (.cons rfl (.cons rfl (.cons rfl .nil))) ⟨by omega, ?_⟩ (by omega)
      intro j hj
      by_cases e : j = i
      · subst e; apply hq.1; cases q <;> simp_all
      · exact h2 j (by omega)
  · refine go ?_
    exact retV rfl (by
      have : a = b := getD_ext h (fun j hj => h2 j (by omega))
      cases r <;> simp_all) rfl rfl

/-! Rows of rows; marks. -/
/-- What is held of the marks from m on. -/
def heldS : List Tm → Int → Int
  | [], m => m
  | t :: l, m => if t.op ≠ m then -1 else if t.n ≠ m + 1 then -1 else heldS l (m + 2)
theorem drop_getD {α : Type} {xs : List α} {i : Nat} (h : i < xs.length) (d : α) : xs.drop i = xs.getD i d :: xs.drop (i + 1) := by
  rw [List.drop_eq_getElem_cons h, List.getD_eq_getElem?_getD, List.getElem?_eq_getElem h]; rfl
theorem heldTermS (xs : List Tm) (m : Int) (h0 : 0 ≤ m) (hb : m + 2 * xs.length ≤ 4611686018427387904) {r : Int} (hr : heldS xs m = r) : Ev Try.prog X (.fn 35 [.im xs.length (encL tm xs), i64 m] (i64 r) [.dead, .dead]) := by
  subst hr
  refine Ev.fnW (env := [(0, .im xs.length (encL tm xs)), (1, i64 m)]) Try.func35 rfl nm_laws_heldTermS rfl rfl (by kernel_rfl) (.cons rfl (.cons rfl .nil)) ?_
  refine go ?_
  refine WC.loopS (S := Nat × Int) (fun s => [(0, .im xs.length (encL tm xs)), (1, i64 s.2), (5, i64 s.1)]) (fun s => s.1 ≤ xs.length ∧ s.2 = m + 2 * s.1 ∧ heldS xs m = heldS (xs.drop s.1) s.2) (fun s => xs.length - s.1) (0, m) (.cons rfl (.cons rfl (.cons rfl .nil))) ⟨by simp, by simp, by simp⟩ ?_
  rintro ⟨i, m'⟩ ⟨h1, hm, h2⟩
  dsimp only at h1 hm h2 ⊢
  refine go ?_
  refine WO.cmp rfl rfl rfl rfl rfl (fun h3 => ?_) (fun h3 => ?_)
  · have hi : i < xs.length := by omega
    rw [drop_getD hi zt, heldS] at h2
    refine go ?_
    refine WO.ixN (f := tm) zt rfl rfl rfl hi rfl ?_
    refine go ?_
    refine WO.cmp rfl rfl rfl rfl rfl (fun h4 => ?_) (fun h4 => ?_)
    · refine go ?_
      exact retV rfl (by rw [h2, if_pos h4]) rfl rfl
    rw [if_neg h4] at h2
    refine go ?_
    refine WO.ixN (f := tm) zt rfl rfl rfl hi rfl ?_
    refine go ?_
    refine WO.cmp rfl rfl rfl rfl rfl (fun h5 => ?_) (fun h5 => ?_)
    · refine go ?_
      exact retV rfl (by rw [h2, if_pos h5]) rfl rfl
    rw [if_neg h5] at h2
    refine go ?_
    refine lpK.mk (i + 1, m' + 1 + 1) (.cons rfl (.cons rfl (.cons rfl .nil))) ⟨by simp only; omega, by simp only; omega, ?_⟩ (by simp only; omega)
    rw [h2, show m' + 1 + 1 = m' + 2 by omega]
  · have e : i = xs.length := by omega
    subst e
    refine go ?_
    exact retV rfl (by rw [h2, List.drop_length, heldS]) rfl rfl
def heldSS : List (List Tm) → Int → Int
  | [], m => m
  | l :: ls, m => if heldS l m < 0 then -1 else heldSS ls (heldS l m)
theorem heldS_le : ∀ (l : List Tm) (m : Int), heldS l m ≤ m + 2 * l.length ∨ heldS l m = -1
  | [], m => by simp [heldS]
  | t :: l, m => by
    unfold heldS
    split
    · exact .inr rfl
    · split
      · exact .inr rfl
      · rcases heldS_le l (m + 2) with h | h
        · left; rw [List.length_cons]; omega
        · exact .inr h
def tot : List (List Tm) → Nat
  | [] => 0
  | l :: ls => l.length + tot ls
end Go.Eng.C
/- Contracts of functions, by the engine: marks. -/
namespace Go.Eng.C
open Go Go.Eng Go.RowKit Go.Proofs
set_option linter.unusedVariables false
set_option linter.unusedSimpArgs false
set_option maxRecDepth 10000
variable {X : FuncId → List AV → AV → List AV → Prop}

/-- What a row of terms holds when it has been marked from m on. -/
def markS : List Tm → Int → List Tm
  | [], _ => []
  | _ :: l, m => ⟨m, m + 1⟩ :: markS l (m + 2)
theorem markS_len : ∀ (l : List Tm) (m : Int), (markS l m).length = l.length
  | [], m => rfl
  | t :: l, m => by simp only [markS, List.length_cons, markS_len l]
theorem noIm_tm : ∀ (l : List Tm), noImL (encL tm l) = true
  | [] => rfl
  | t :: l => by rw [encL_cons]; simp only [tm, List.cons_append, List.nil_append, noImL, noIm, Bool.true_and]; exact noIm_tm l
theorem getD_set_self {α : Type} {xs : List α} {i : Nat} {v d : α} (h : i < xs.length) : (xs.set i v).getD i d = v := by
  simp [List.getD_eq_getElem?_getD, h]
theorem take_set {α : Type} {xs : List α} {i : Nat} {v : α} (h : i < xs.length) : (xs.set i v).take (i + 1) = xs.take i ++ [v] := by
  rw [List.take_add_one, List.getElem?_set_self h, List.take_set_of_le (Nat.le_refl _)]; rfl
theorem markTermS (xs : List Tm) (m : Int) (h0 : 0 ≤ m) (hx : xs.length ≤ 1152921504606846976) (hb : m + 2 * xs.length ≤ 4611686018427387904) :
    Ev Try.prog X (.fn 34 [.ow 93 2 xs.length (encL tm xs), i64 m] (i64 (m + 2 * xs.length)) [.ow 93 2 xs.length (encL tm (markS xs m)), .dead]) := by
  refine Ev.fnW (env := [(0, .vw 1000000 [] 0 xs.length), (1, i64 m), (1000000, .ow 93 2 xs.length (encL tm xs))]) Try.func34 rfl nm_laws_markTermS rfl rfl (by kernel_rfl) (.cons rfl (.cons rfl (.cons rfl .nil))) ?_
  refine go ?_
  refine WC.loopS (S := Nat × Int × List Tm) (fun s => [(0, .vw 1000000 [] 0 xs.length), (1, i64 s.2.1), (5, i64 s.1), (1000000, .ow 93 2 xs.length (encL tm s.2.2))]) (fun s => s.1 ≤ xs.length ∧ s.2.1 = m + 2 * s.1 ∧ s.2.2.length = xs.length ∧ markS xs m = s.2.2.take s.1 ++ markS (xs.drop s.1) s.2.1) (fun s => xs.length - s.1) (0, m, xs) (.cons rfl (.cons rfl (.cons rfl (.cons rfl .nil)))) ⟨by simp, by simp, rfl, by simp⟩ ?_
  rintro ⟨i, m', ys⟩ ⟨h1, hm, hy, h2⟩
  dsimp only at h1 hm hy h2 ⊢
  refine go ?_
  refine WO.cmp rfl rfl rfl rfl rfl (fun h3 => ?_) (fun h3 => ?_)
  · have hi : i < xs.length := by omega
    rw [drop_getD hi zt, markS] at h2
    refine go ?_
    refine WO.ixM rfl rfl rfl (by rw [encL_length]; omega) rfl hi rfl rfl ?_
    refine go ?_
    refine WO.stE (f := tm) (i := i) (j := 0) zt ⟨m', (ys.getD i zt).n⟩ rfl rfl rfl (by omega) rfl rfl (by omega) rfl rfl ?_
    refine go ?_
    refine WO.ixM rfl rfl rfl (by rw [encL_length, List.length_set]; omega) rfl hi rfl rfl ?_
    refine go ?_
    refine WO.stE (f := tm) (i := i) (j := 1) zt ⟨m', m' + 1⟩ rfl rfl rfl (by omega) rfl rfl (by rw [List.length_set]; omega) rfl (by rw [getD_set_self (by omega)]; rfl) ?_
    rw [List.set_set]
    refine go ?_
    refine lpK.mk (i + 1, m' + 1 + 1, ys.set i ⟨m', m' + 1⟩) (.cons rfl (.cons rfl (.cons rfl (.cons rfl .nil)))) ⟨by simp only; omega, by simp only; omega, by simp only [List.length_set, hy], ?_⟩ (by simp only; omega)
    dsimp only
    rw [h2, take_set (by omega), List.append_assoc, show m' + 1 + 1 = m' + 2 by omega]; rfl
  · have e : i = xs.length := by omega
    subst e
    have e2 : ys = markS xs m := by rw [h2, List.drop_length, markS, List.append_nil, List.take_of_length_le (by omega)]
    subst hm
    refine go ?_
    exact retV rfl rfl (by rw [← e2]; rfl) rfl
def markSS : List (List Tm) → Int → List (List Tm)
  | [], _ => []
  | l :: ls, m => markS l m :: markSS ls (m + 2 * l.length)
theorem markSS_len : ∀ (l : List (List Tm)) (m : Int), (markSS l m).length = l.length
  | [], m => rfl
  | t :: l, m => by simp only [markSS, List.length_cons, markSS_len l]
theorem getD_of_drop {α : Type} {xs : List α} {i : Nat} {a : α} {l : List α} (d : α) (h : xs.drop i = a :: l) : xs.getD i d = a := by
  have := congrArg (fun z => z[0]?) h
  simp only [List.getElem?_drop, Nat.add_zero, List.getElem?_cons_zero] at this
  rw [List.getD_eq_getElem?_getD, this]; rfl
end Go.Eng.C
/- Contracts of functions, by the engine: what a term takes; ExpOk. -/
namespace Go.Eng.C
open Go Go.Eng Go.RowKit Go.Proofs
set_option linter.unusedVariables false
set_option linter.unusedSimpArgs false
set_option maxRecDepth 10000
variable {X : FuncId → List AV → AV → List AV → Prop}
theorem nm_spec_l1In : (Try.f110.name == "runtime.NumGoroutine") = false := by decide
theorem nm_spec_TakesOf : (Try.f140.name == "runtime.NumGoroutine") = false := by decide
theorem nm_impl_TakesOf : (Try.f147.name == "runtime.NumGoroutine") = false := by decide
theorem nm_spec_ExpOk : (Try.f139.name == "runtime.NumGoroutine") = false := by decide
theorem nm_impl_ExpOk : (Try.f145.name == "runtime.NumGoroutine") = false := by decide
theorem bool_eq {r b : Bool} {p : Prop} (hr : r = true ↔ p) (hb : b = true ↔ p) : AV.sc (.bool b) = bl r := by
  have : r = b := by cases r <;> cases b <;> simp_all
  rw [this]
theorem l1In (a b c : Int) {r : Bool} (hr : r = true ↔ b ≤ a ∧ a ≤ c) : Ev Try.prog X (.fn 110 [i64 a, i64 b, i64 c] (bl r) [.dead, .dead, .dead]) := by
  refine Ev.fnW (env := [(0, i64 a), (1, i64 b), (2, i64 c)]) Try.func110 rfl nm_spec_l1In rfl rfl (by kernel_rfl) (.cons rfl (.cons rfl (.cons rfl .nil))) ?_
  refine go ?_
  refine WO.cmp rfl rfl rfl rfl rfl (fun h => ?_) (fun h => ?_)
  · refine go ?_
    refine WO.cmp rfl rfl rfl rfl rfl (fun h2 => ?_) (fun h2 => ?_)
    · refine go ?_
      exact retV rfl (bool_eq hr (by simp; omega)) rfl rfl
    · refine go ?_
      exact retV rfl (bool_eq hr (by simp; omega)) rfl rfl
  · refine go ?_
    exact retV rfl (bool_eq hr (by simp; omega)) rfl rfl
theorem tks_tab : ∀ n < 18, ([0, 0, 1, 1, 1, 2, 2, 2, 2, 2, 2, 2, 2, 2, 2, 2, 2, 3] : List Int).getD n 0 = tks n := by decide
theorem tks_out {a : Int} (h : ¬ (0 ≤ a ∧ a ≤ 17)) : -1 = tks a := by
  unfold tks
  repeat' split
  all_goals omega
theorem specTakesOf (a : Int) : Ev Try.prog X (.fn 140 [i64 a] (i64 (tks a)) [.dead]) := by
  refine Ev.fnW (env := [(0, i64 a)]) Try.func140 rfl nm_spec_TakesOf rfl rfl (by kernel_rfl) (.cons rfl .nil) ?_
  refine go ?_
  by_cases h : 0 ≤ a ∧ a ≤ 17
  · refine WO.call rfl rfl rfl (l1In a 0 17 (r := true) (by simp [h])) rfl rfl ?_
    obtain ⟨n, rfl⟩ := Int.eq_ofNat_of_zero_le h.1
    refine go ?_
    refine WO.bs (cs := encL eI [0, 0, 1, 1, 1, 2, 2, 2, 2, 2, 2, 2, 2, 2, 2, 2, 2, 3]) rfl rfl rfl rfl rfl (by kernel_rfl) rfl ?_
    refine go ?_
    refine WO.ixM rfl rfl rfl (by decide) rfl (by omega) rfl rfl ?_
    refine WO.ldE (f := eI) (i := n) (j := 0) 0 rfl rfl rfl (by omega) rfl (by simp; omega) rfl rfl ?_
    refine go ?_
    exact retV rfl (congrArg i64 (tks_tab n (by omega))) rfl rfl
  · refine WO.call rfl rfl rfl (l1In a 0 17 (r := false) (by simp; omega)) rfl rfl ?_
    refine go ?_
    exact retV rfl (congrArg i64 (tks_out h)) rfl rfl
theorem implTakesOf (a : Int) : Ev Try.prog X (.fn 147 [i64 a] (i64 (tks a)) [.dead]) := by
  refine Ev.fnW (env := [(0, i64 a)]) Try.func147 rfl nm_impl_TakesOf rfl rfl (by kernel_rfl) (.cons rfl .nil) ?_
  refine go ?_
  repeat' (first
    | exact retV rfl (congrArg i64 (by unfold tks; repeat' split
                                       all_goals omega)) rfl rfl
    | (refine WO.cmp rfl rfl rfl rfl rfl (fun _ => ?_) (fun _ => ?_) <;> refine go ?_))
theorem exp_no {xs : List Tm} (h : hgt xs 0 = none) : AV.sc (.bool false) = bl (expOk xs) := by
  simp [expOk, h]
theorem exp_long {xs : List Tm} (h : ¬ xs.length ≤ 3000) : AV.sc (.bool false) = bl (expOk xs) := by
  simp [expOk, h]
theorem exp_end {xs : List Tm} {k : Int} {b : Bool} (hl : xs.length ≤ 3000) (h : hgt xs 0 = some k) (hb : b = true ↔ k = 1) : AV.sc (.bool b) = bl (expOk xs) := by
  have : b = expOk xs := by simp only [expOk, h, hl, Option.some.injEq]; cases b <;> simp_all
  rw [this]
set_option maxHeartbeats 8000000 in
theorem specExpOk (xs : List Tm) (hx : xs.length ≤ 1152921504606846976) : Ev Try.prog X (.fn 139 [.im xs.length (encL tm xs)] (bl (expOk xs)) [.dead]) := by
  refine Ev.fnW (env := [(0, .im xs.length (encL tm xs))]) Try.func139 rfl nm_spec_ExpOk rfl rfl (by kernel_rfl) (.cons rfl .nil) ?_
  refine go ?_
  refine WO.cmp rfl rfl rfl rfl rfl (fun h => ?_) (fun h => ?_)
  · refine go ?_
    exact retV rfl (exp_long (by omega)) rfl rfl
  have hl : xs.length ≤ 3000 := by omega
  refine go ?_
  refine WC.loopS (S := Nat × Int) (fun s => [(0, .im xs.length (encL tm xs)), (3, i64 s.2), (4, i64 s.1)]) (fun s => s.1 ≤ xs.length ∧ 0 ≤ s.2 ∧ s.2 ≤ s.1 ∧ hgt xs 0 = hgt (xs.drop s.1) s.2) (fun s => xs.length - s.1) (0, 0) (.cons rfl (.cons rfl (.cons rfl .nil))) ⟨by simp, by simp, by simp, by simp⟩ ?_
  rintro ⟨i, n⟩ ⟨h1, h0, hm, h2⟩
  dsimp only at h1 h0 hm h2 ⊢
  refine go ?_
  refine WO.cmp rfl rfl rfl rfl rfl (fun h3 => ?_) (fun h3 => ?_)
  · have hi : i < xs.length := by omega
    rw [drop_getD hi zt, hgt] at h2
    generalize hT : xs.getD i zt = t at *
    have no : ¬ (tmOk t ∧ tks t.op ≤ n) → hgt xs 0 = none := fun hn => by rw [h2, if_neg hn]
    have hr := tks_range t.op
    unfold tmOk at no h2
    refine go ?_
    refine WO.ixN (f := tm) zt rfl rfl rfl hi rfl ?_
    rw [hT]
    refine go ?_
    refine WO.call rfl rfl rfl (specTakesOf _) rfl rfl ?_
    refine go ?_
    refine WO.cmp rfl rfl rfl rfl rfl (fun h4 => ?_) (fun h4 => ?_)
    · refine go ?_
      exact retV rfl (exp_no (no (by omega))) rfl rfl
    refine go ?_
    refine WO.cmp rfl rfl rfl rfl rfl (fun h5 => ?_) (fun h5 => ?_)
    · refine go ?_
      exact retV rfl (exp_no (no (by omega))) rfl rfl
    refine go ?_
    refine WO.ixN (f := tm) zt rfl rfl rfl hi rfl ?_
    rw [hT]
    refine go ?_
    by_cases h6 : 0 ≤ t.n ∧ t.n ≤ 255
    · refine WO.call rfl rfl rfl (l1In t.n 0 255 (r := true) (by simp [h6])) rfl rfl ?_
      refine go ?_
      refine WO.ixN (f := tm) zt rfl rfl rfl hi rfl ?_
      rw [hT]
      refine go ?_
      have fin : (t.op > 2 → t.n = 0) → hgt xs 0 = hgt (xs.drop (i + 1)) (n - tks t.op + 1) := fun h7 => by
        rw [h2, if_pos ⟨⟨by omega, h6.1, h6.2, h7⟩, by omega⟩]; congr 1; omega
      refine WO.cmp rfl rfl rfl rfl rfl (fun h7 => ?_) (fun h7 => ?_)
      · refine go ?_
        refine WO.ixN (f := tm) zt rfl rfl rfl hi rfl ?_
        rw [hT]
        refine go ?_
        refine WO.cmp rfl rfl rfl rfl rfl (fun h8 => ?_) (fun h8 => ?_)
        · refine go ?_
          exact retV rfl (exp_no (no (by omega))) rfl rfl
        · refine go ?_
          exact lpK.mk (i + 1, n - tks t.op + 1) (.cons rfl (.cons rfl (.cons rfl .nil))) ⟨by simp only; omega, by simp only; omega, by simp only; omega, fin (by omega)⟩ (by simp only; omega)
      · refine go ?_
        exact lpK.mk (i + 1, n - tks t.op + 1) (.cons rfl (.cons rfl (.cons rfl .nil))) ⟨by simp only; omega, by simp only; omega, by simp only; omega, fin (by omega)⟩ (by simp only; omega)
    · refine WO.call rfl rfl rfl (l1In t.n 0 255 (r := false) (by simp; omega)) rfl rfl ?_
      refine go ?_
      exact retV rfl (exp_no (no (by omega))) rfl rfl
  · have e : i = xs.length := by omega
    subst e
    rw [List.drop_length, hgt] at h2
    refine go ?_
    refine WO.cmp rfl rfl rfl rfl rfl (fun h4 => ?_) (fun h4 => ?_)
    · refine go ?_
      exact retV rfl (exp_end hl h2 (by simp [h4])) rfl rfl
    · refine go ?_
      exact retV rfl (exp_end hl h2 (by simp [h4])) rfl rfl
set_option maxHeartbeats 8000000 in
theorem implExpOk (xs : List Tm) (hx : xs.length ≤ 1152921504606846976) : Ev Try.prog X (.fn 145 [.im xs.length (encL tm xs)] (bl (expOk xs)) [.dead]) := by
  refine Ev.fnW (env := [(0, .im xs.length (encL tm xs))]) Try.func145 rfl nm_impl_ExpOk rfl rfl (by kernel_rfl) (.cons rfl .nil) ?_
  refine go ?_
  refine WO.cmp rfl rfl rfl rfl rfl (fun h => ?_) (fun h => ?_)
  · have : xs = [] := List.length_eq_zero_iff.1 (by omega)
    subst this
    refine go ?_
    exact retV rfl (congrArg bl (show false = expOk [] by decide)) rfl rfl
  refine go ?_
  refine WO.cmp rfl rfl rfl rfl rfl (fun h => ?_) (fun h => ?_)
  · refine go ?_
    exact retV rfl (exp_long (by omega)) rfl rfl
  have hl : xs.length ≤ 3000 := by omega
  refine go ?_
  refine WC.loopS (S := Nat × Int) (fun s => [(15, .im xs.length (encL tm xs)), (16, i64 xs.length), (3, i64 s.2), (17, i64 s.1)]) (fun s => s.1 ≤ xs.length ∧ 0 ≤ s.2 ∧ s.2 ≤ s.1 ∧ hgt xs 0 = hgt (xs.drop s.1) s.2) (fun s => xs.length - s.1) (0, 0) (.cons rfl (.cons rfl (.cons rfl (.cons rfl .nil)))) ⟨by simp, by simp, by simp, by simp⟩ ?_
  rintro ⟨i, n⟩ ⟨h1, h0, hm, h2⟩
  dsimp only at h1 h0 hm h2 ⊢
  refine go ?_
  refine WO.cmp rfl rfl rfl rfl rfl (fun h3 => ?_) (fun h3 => ?_)
  · have hi : i < xs.length := by omega
    rw [drop_getD hi zt, hgt] at h2
    generalize hT : xs.getD i zt = t at *
    have no : ¬ (tmOk t ∧ tks t.op ≤ n) → hgt xs 0 = none := fun hn => by rw [h2, if_neg hn]
    have hr := tks_range t.op
    unfold tmOk at no h2
    refine go ?_
    refine WO.ixN (f := tm) zt rfl rfl rfl hi rfl ?_
    rw [hT]
    refine WO.ldIA rfl rfl rfl rfl rfl ?_
    refine WO.alloc rfl rfl ?_
    refine WO.stA rfl rfl rfl rfl rfl rfl rfl rfl rfl ?_
    refine go ?_
    refine WO.call rfl rfl rfl (implTakesOf _) rfl rfl ?_
    have fin : (t.op > 2 → t.n = 0) → 0 ≤ tks t.op → tks t.op ≤ n → 0 ≤ t.n → t.n ≤ 255 → hgt xs 0 = hgt (xs.drop (i + 1)) (n + (1 - tks t.op)) := fun h7 h8 h9 h10 h11 => by
      rw [h2, if_pos ⟨⟨h8, h10, h11, h7⟩, h9⟩]
    refine go ?_
    repeat' (first
      | exact retV rfl (exp_no (no (by omega))) rfl rfl
      | exact lpK.mk (i + 1, n + (1 - tks t.op)) (.cons rfl (.cons rfl (.cons rfl (.cons rfl .nil)))) ⟨by simp only; omega, by simp only; omega, by simp only; omega, fin (by omega) (by omega) (by omega) (by omega) (by omega)⟩ (by simp only; omega)
      | (refine WO.cmp rfl rfl rfl rfl rfl (fun _ => ?_) (fun _ => ?_) <;> refine go ?_))
  · have e : i = xs.length := by omega
    subst e
    rw [List.drop_length, hgt] at h2
    refine go ?_
    refine WO.cmp rfl rfl rfl rfl rfl (fun h4 => ?_) (fun h4 => ?_)
    · refine go ?_
      exact retV rfl (exp_end hl h2 (by simp [h4])) rfl rfl
    · refine go ?_
      exact retV rfl (exp_end hl h2 (by simp [h4])) rfl rfl
end Go.Eng.C
/- Contracts of functions, by the engine: the parts of an expression. -/
namespace Go.Eng.C
open Go Go.Eng Go.RowKit Go.Proofs
set_option linter.unusedVariables false
set_option linter.unusedSimpArgs false
set_option maxRecDepth 10000
variable {X : FuncId → List AV → AV → List AV → Prop}
theorem nm_spec_l2First : (Try.f195.name == "runtime.NumGoroutine") = false := by decide
theorem nm_spec_l2Copy : (Try.f93.name == "runtime.NumGoroutine") = false := by decide
theorem nm_impl_ownTerms : (Try.f96.name == "runtime.NumGoroutine") = false := by decide
theorem nm_spec_PartsOf : (Try.f158.name == "runtime.NumGoroutine") = false := by decide
theorem l2First (x : List Tm) (i r : Nat) (hx : x.length ≤ 3000) (hi : i < x.length) (hb : bk (x.take (i + 1)).reverse 1 = some r) : Ev Try.prog X (.fn 195 [.im x.length (encL tm x), i64 i] (i64 r) [.dead, .dead]) := by
  refine Ev.fnW (env := [(0, .im x.length (encL tm x)), (1, i64 i)]) Try.func195 rfl nm_spec_l2First rfl rfl (by kernel_rfl) (.cons rfl (.cons rfl .nil)) ?_
  refine go ?_
  refine WC.loopS (S := Nat × Int × Int) (fun s => [(0, .im x.length (encL tm x)), (6, i64 s.2.1), (5, i64 s.2.2)]) (fun s => s.1 < x.length ∧ s.2.1 = s.1 ∧ s.2.2 ≤ 4 * ((x.length : Int) - s.1) ∧ -4 * ((x.length : Int) - s.1) ≤ s.2.2 ∧ bk (x.take (s.1 + 1)).reverse s.2.2 = some r) (fun s => s.1) (i, (i : Int), 1) (.cons rfl (.cons rfl (.cons rfl .nil))) ⟨hi, rfl, by dsimp only; omega, by dsimp only; omega, hb⟩ ?_
  rintro ⟨j, y, n⟩ ⟨h1, hy, h2, h3, h4⟩
  dsimp only at h1 hy h2 h3 h4 ⊢
  subst hy
  rw [bk_step h1] at h4
  have hr := tks_range (x.getD j zt).op
  refine go ?_
  refine WO.ixN (f := tm) zt rfl rfl rfl h1 rfl ?_
  refine go ?_
  refine WO.call rfl rfl rfl (specTakesOf _) rfl rfl ?_
  refine go ?_
  refine WO.cmp rfl rfl rfl rfl rfl (fun h5 => ?_) (fun h5 => ?_)
  · rw [if_pos h5] at h4
    cases h4
    refine go ?_
    exact retV rfl rfl rfl rfl
  · rw [if_neg h5] at h4
    have hj : 0 < j := by have := bk_lt (by omega) h4; omega
    obtain ⟨j, rfl⟩ : ∃ m, j = m + 1 := ⟨j - 1, by omega⟩
    refine go ?_
    exact lpK.mk (j, ((j + 1 : Nat) : Int) - 1, n - 1 + tks (x.getD (j + 1) zt).op) (.cons rfl (.cons rfl (.cons rfl .nil))) ⟨by dsimp only; omega, by dsimp only; omega, by dsimp only; omega, by dsimp only; omega, h4⟩ (by dsimp only; omega)
theorem l2Copy (x : List Tm) (hx : x.length ≤ 1048576) : Ev Try.prog X (.fn 93 [.im x.length (encL tm x)] (.ow 93 2 x.length (encL tm x)) [.dead]) := by
  refine Ev.fnW (env := [(0, .im x.length (encL tm x))]) Try.func93 rfl nm_spec_l2Copy rfl rfl (by kernel_rfl) (.cons rfl .nil) ?_
  refine go ?_
  refine WO.build0 rfl rfl rfl ?_
  refine go ?_
  refine WO.apI rfl rfl rfl rfl rfl (encL_length _) rfl (by unfold maxLen; omega) (by omega) rfl ?_
  rw [Nat.zero_add, List.nil_append]
  refine go ?_
  exact retO rfl rfl (encL_length _) rfl rfl rfl
theorem ownTerms (x : List Tm) (hx : x.length ≤ 1048576) : Ev Try.prog X (.fn 96 [.im x.length (encL tm x)] (.ow 93 2 x.length (encL tm x)) [.dead]) := by
  refine Ev.fnW (env := [(0, .im x.length (encL tm x))]) Try.func96 rfl nm_impl_ownTerms rfl rfl (by kernel_rfl) (.cons rfl .nil) ?_
  refine go ?_
  refine WO.build0 rfl rfl rfl ?_
  refine go ?_
  refine WO.apI rfl rfl rfl rfl rfl (encL_length _) rfl (by unfold maxLen; omega) (by omega) rfl ?_
  rw [Nat.zero_add, List.nil_append]
  refine go ?_
  exact retO rfl rfl (encL_length _) rfl rfl rfl
end Go.Eng.C
/- Contracts of functions, by the engine: spec.PartsOf, impl.PartsOf. -/
namespace Go.Eng.C
open Go Go.Eng Go.RowKit Go.Proofs
set_option linter.unusedVariables false
set_option linter.unusedSimpArgs false
set_option maxRecDepth 10000
variable {X : FuncId → List AV → AV → List AV → Prop}
/-- The parts of an expression; of what is none, nothing. -/
inductive PartsR : List Tm → List (List Tm) → Prop
  | ok {ks : List (List Tm)} {t : Tm} (h : expOk (ks.flatten ++ [t]) = true) (hl : (ks.flatten ++ [t]).length ≤ 3000) (hk : ∀ s ∈ ks, IsTr s) (ht : (ks.length : Int) = tks t.op) (h3 : ks.length ≤ 3) : PartsR (ks.flatten ++ [t]) ks
  | no {x : List Tm} (h : expOk x = false) : PartsR x []
theorem PartsR.ex (x : List Tm) : ∃ ks, PartsR x ks := by
  cases h : expOk x
  · exact ⟨[], .no h⟩
  · obtain ⟨ks, t, rfl, hk, ht, h3, -, hl⟩ := parts_ex h
    exact ⟨ks, .ok h hl hk ht h3⟩
abbrev rows (ks : List (List Tm)) : AV := .ow 42 1 ks.length (encL (eO 93 2 tm) ks)
theorem last_at (y : List Tm) (t : Tm) : (y ++ [t]).getD y.length zt = t := by simp
set_option maxHeartbeats 8000000 in
theorem specPartsOf (x : List Tm) (ks : List (List Tm)) (hx : x.length ≤ 1152921504606846976) (h : PartsR x ks) : Ev Try.prog X (.fn 158 [.im x.length (encL tm x)] (rows ks) [.dead]) := by
  refine Ev.fnW (env := [(0, .im x.length (encL tm x))]) Try.func158 rfl nm_spec_PartsOf rfl rfl (by kernel_rfl) (.cons rfl .nil) ?_
  refine go ?_
  refine WO.build0 rfl rfl rfl ?_
  refine go ?_
  refine WO.call rfl rfl rfl (specExpOk x hx) rfl rfl ?_
  cases h with
  | no h =>
    rw [h]
    refine go ?_
    exact retO rfl rfl rfl rfl rfl rfl
  | @ok _ t h hl hk ht h3 =>
    rw [h]
    generalize hX : ks.flatten ++ [t] = x at *
    have hlen : x.length = ks.flatten.length + 1 := by rw [← hX]; simp
    refine go ?_
    refine WO.ixI (f := tm) rfl zt rfl rfl (by omega) (by omega) rfl ?_
    rw [show ((x.length : Int) - 1).toNat = ks.flatten.length by omega, show x.getD ks.flatten.length zt = t by rw [← hX]; exact last_at _ _]
    refine go ?_
    refine WO.call rfl rfl rfl (specTakesOf _) rfl rfl ?_
    rw [← ht]
    refine go ?_
    refine WC.loopS (S := Nat × Int × Int × List (List Tm)) (fun s => [(0, .im x.length (encL tm x)), (4, i64 s.2.1), (5, i64 s.2.2.1), (3, rows s.2.2.2)]) (fun s => s.1 ≤ ks.length ∧ s.2.1 = ((ks.take s.1).flatten.length : Int) - 1 ∧ s.2.2.1 = s.1 ∧ s.2.2.2 = ks.drop s.1) (fun s => s.1) (ks.length, (x.length : Int) - 2, (ks.length : Int), []) (.cons rfl (.cons rfl (.cons rfl (.cons rfl .nil)))) ⟨Nat.le_refl _, by dsimp only; rw [List.take_length]; omega, rfl, by simp⟩ ?_
    rintro ⟨i, y, z, out⟩ ⟨h1, hy, hz, ho⟩
    dsimp only at h1 hy hz ho ⊢
    subst hz
    refine go ?_
    refine WO.cmp rfl rfl rfl rfl rfl (fun h5 => ?_) (fun h5 => ?_)
    · obtain ⟨i, rfl⟩ : ∃ m, i = m + 1 := ⟨i - 1, by omega⟩
      have hi : i < ks.length := by omega
      have hs := hk ks[i] (List.getElem_mem _)
      have hp := hs.pos
      have e1 := ks_split ks i hi
      have e2 := ks_take ks i hi
      have hb := seg_bk (p := (ks.take i).flatten) (r := (ks.drop (i + 1)).flatten ++ [t]) hs
      have e3 : x = (ks.take i).flatten ++ ks[i] ++ ((ks.drop (i + 1)).flatten ++ [t]) := by rw [← hX, e1]; simp
      have hle : (ks.take i).flatten.length + ks[i].length ≤ x.length := by rw [e3]; simp
      rw [← e3] at hb
      have hcons : ks.drop i = ks[i] :: ks.drop (i + 1) := List.drop_eq_getElem_cons hi
      have hol : out.length ≤ 3 := by rw [ho, List.length_drop]; omega
      rw [e2, List.length_append] at hy
      have hdrop : (x.drop (ks.take i).flatten.length).take ks[i].length = ks[i] := by
        rw [e3, List.append_assoc, List.drop_left, List.take_left]
      generalize hP : (ks.take i).flatten.length = p at *
      generalize hS : ks[i] = s at *
      obtain ⟨e, he⟩ : ∃ e : Nat, e + 1 = p + s.length := ⟨p + s.length - 1, by omega⟩
      have hye : y = (e : Int) := by omega
      subst hye
      rw [← he] at hb
      refine go ?_
      refine WO.call rfl rfl rfl (l2First x e p hl (by omega) hb) rfl rfl ?_
      refine go ?_
      refine WO.slI (f := tm) rfl rfl rfl rfl (by omega) (by omega) (by omega) rfl ?_
      rw [show ((x.drop (p : Int).toNat).take (((e : Int) + 1).toNat - (p : Int).toNat)) = s by rw [Int.toNat_natCast, show ((e : Int) + 1).toNat - p = s.length by omega]; exact hdrop]
      refine WO.call rfl rfl rfl (l2Copy s (by omega)) rfl rfl ?_
      refine WO.b1 rfl rfl rfl (encL_length _) rfl rfl ?_
      refine go ?_
      refine WO.apM rfl rfl rfl rfl rfl rfl (encL_length _) rfl rfl (by unfold maxLen; omega) (by omega) rfl ?_
      rw [Nat.add_comm 1 out.length]
      change WO _ _ _ _ (look ((38, rows (s :: out)) :: _)) _
      refine WO.cln 3 ?_
      refine go ?_
      refine lpK.mk (i, (p : Int) - 1, ((i + 1 : Nat) : Int) - 1, s :: out) (.cons rfl (.cons rfl (.cons rfl (.cons rfl .nil)))) ⟨by dsimp only; omega, by dsimp only; rw [hP], by dsimp only; omega, by dsimp only; rw [ho, hcons]⟩ (by dsimp only; omega)
    · have hi : i = 0 := by omega
      subst hi
      rw [List.drop_zero] at ho
      subst ho
      refine go ?_
      exact retO rfl rfl (encL_length _) rfl rfl rfl
theorem encO_drop (ks : List (List Tm)) (i : Nat) : encL (eO 93 2 tm) (ks.drop i) = (encL (eO 93 2 tm) ks).drop i := by
  have := encL_drop (f := eO 93 2 tm) (sz := 1) i ks
  rw [Nat.mul_one] at this; exact this.symm
end Go.Eng.C
