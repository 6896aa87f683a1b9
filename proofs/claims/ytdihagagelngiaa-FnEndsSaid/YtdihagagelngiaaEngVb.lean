/- Contracts of functions, by the engine: marks. -/
import Derived.Test.YtdihagagelngiaaEngVa
namespace Go.Eng.C
open Go Go.Eng Go.RowKit Go.Proofs
set_option linter.unusedVariables false
set_option linter.unusedSimpArgs false
set_option maxRecDepth 10000
variable {X : FuncId → List AV → AV → List AV → Prop}

/-- What a row of terms holds when it has been marked from m on. -/
def markS : List Tm → Int → List Tm
  | [], _ => []
  | _ :: l, m => ⟨m, m + 1⟩ :: markS l (m + 2)
theorem markS_len : ∀ (l : List Tm) (m : Int), (markS l m).length = l.length
  | [], m => rfl
  | t :: l, m => by simp only [markS, List.length_cons, markS_len l]
theorem noIm_tm : ∀ (l : List Tm), noImL (encL tm l) = true
  | [] => rfl
  | t :: l => by rw [encL_cons]; simp only [tm, List.cons_append, List.nil_append, noImL, noIm, Bool.true_and]; exact noIm_tm l
theorem getD_set_self {α : Type} {xs : List α} {i : Nat} {v d : α} (h : i < xs.length) : (xs.set i v).getD i d = v := by
  simp [List.getD_eq_getElem?_getD, h]
theorem take_set {α : Type} {xs : List α} {i : Nat} {v : α} (h : i < xs.length) : (xs.set i v).take (i + 1) = xs.take i ++ [v] := by
  rw [List.take_add_one, List.getElem?_set_self h, List.take_set_of_le (Nat.le_refl _)]; rfl
theorem markTermS (xs : List Tm) (m : Int) (h0 : 0 ≤ m) (hx : xs.length ≤ 1152921504606846976) (hb : m + 2 * xs.length ≤ 4611686018427387904) :
    Ev Try.prog X (.fn 157 [.ow 53 2 xs.length (encL tm xs), i64 m] (i64 (m + 2 * xs.length)) [.ow 53 2 xs.length (encL tm (markS xs m)), .dead]) := by
  refine Ev.fnW (env := [(0, .vw 1000000 [] 0 xs.length), (1, i64 m), (1000000, .ow 53 2 xs.length (encL tm xs))]) Try.func157 rfl nm_laws_markTermS rfl rfl (by kernel_rfl) (.cons rfl (.cons rfl (.cons rfl .nil))) ?_
  refine go ?_
  refine WC.loopS (S := Nat × Int × List Tm) (fun s => [(0, .vw 1000000 [] 0 xs.length), (1, i64 s.2.1), (5, i64 s.1), (1000000, .ow 53 2 xs.length (encL tm s.2.2))]) (fun s => s.1 ≤ xs.length ∧ s.2.1 = m + 2 * s.1 ∧ s.2.2.length = xs.length ∧ markS xs m = s.2.2.take s.1 ++ markS (xs.drop s.1) s.2.1) (fun s => xs.length - s.1) (0, m, xs) (.cons rfl (.cons rfl (.cons rfl (.cons rfl .nil)))) ⟨by simp, by simp, rfl, by simp⟩ ?_
  rintro ⟨i, m', ys⟩ ⟨h1, hm, hy, h2⟩
  dsimp only at h1 hm hy h2 ⊢
  refine go ?_
  refine WO.cmp rfl rfl rfl rfl rfl (fun h3 => ?_) (fun h3 => ?_)
  · have hi : i < xs.length := by omega
    rw [drop_getD hi zt, markS] at h2
    refine go ?_
    refine WO.ixM rfl rfl rfl (by rw [encL_length]; omega) rfl hi rfl rfl ?_
    refine go ?_
    refine WO.stE (f := tm) (i := i) (j := 0) zt ⟨m', (ys.getD i zt).n⟩ rfl rfl rfl (by omega) rfl rfl (by omega) rfl rfl ?_
    refine go ?_
    refine WO.ixM rfl rfl rfl (by rw [encL_length, List.length_set]; omega) rfl hi rfl rfl ?_
    refine go ?_
    refine WO.stE (f := tm) (i := i) (j := 1) zt ⟨m', m' + 1⟩ rfl rfl rfl (by omega) rfl rfl (by rw [List.length_set]; omega) rfl (by rw [getD_set_self (by omega)]; rfl) ?_
    rw [List.set_set]
    refine go ?_
    refine lpK.mk (i + 1, m' + 1 + 1, ys.set i ⟨m', m' + 1⟩) (.cons rfl (.cons rfl (.cons rfl (.cons rfl .nil)))) ⟨by simp only; omega, by simp only; omega, by simp only [List.length_set, hy], ?_⟩ (by simp only; omega)
    dsimp only
    rw [h2, take_set (by omega), List.append_assoc, show m' + 1 + 1 = m' + 2 by omega]; rfl
  · have e : i = xs.length := by omega
    subst e
    have e2 : ys = markS xs m := by rw [h2, List.drop_length, markS, List.append_nil, List.take_of_length_le (by omega)]
    subst hm
    refine go ?_
    exact retV rfl rfl (by rw [← e2]; rfl) rfl
def markSS : List (List Tm) → Int → List (List Tm)
  | [], _ => []
  | l :: ls, m => markS l m :: markSS ls (m + 2 * l.length)
theorem markSS_len : ∀ (l : List (List Tm)) (m : Int), (markSS l m).length = l.length
  | [], m => rfl
  | t :: l, m => by simp only [markSS, List.length_cons, markSS_len l]
theorem getD_drop0 {α : Type} {xs : List α} {i : Nat} {a : α} {l : List α} (d : α) (h : xs.drop i = a :: l) : xs.getD i d = a := by
  have := congrArg (fun z => z[0]?) h
  simp only [List.getElem?_drop, Nat.add_zero, List.getElem?_cons_zero] at this
  rw [List.getD_eq_getElem?_getD, this]; rfl
end Go.Eng.C
