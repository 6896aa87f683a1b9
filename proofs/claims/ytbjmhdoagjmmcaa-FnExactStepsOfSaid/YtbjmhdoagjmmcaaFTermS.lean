/- Part of the pure side: TermS. -/
import Derived.Test.YtbjmhdoagjmmcaaPCoreg
import Derived.Test.YtbjmhdoagjmmcaaPCoreg5
import Derived.Test.YtbjmhdoagjmmcaaPCoreg7
import Derived.Test.YtbjmhdoagjmmcaaTerm
import Derived.Test.YtbjmhdoagjmmcaaFTm
set_option linter.unusedVariables false
set_option linter.unusedSimpArgs false
namespace Go.Proofs.Ytbjmhdoagjmmcaa.Pure
open Go.RowKit Go.Proofs.Ytbjmhdoagjmmcaa.PCore Go.Proofs.YtbjmhdoagjmmcaaW.PrintWords Go.Proofs.YtbjmhdoagjmmcaaW.PrintLast Go.Proofs.YtbjmhdoagjmmcaaW.PrintMore Go.Proofs.Ytbjmhdoagjmmcaa.Bs

def tmL (s : S102) : S100 := ⟨s.f0, s.f1⟩
theorem rdTl_at (l : List S102) (i : Nat) (h : i < l.length) : rd_T102 l (i : Int) = l[i] := by
  simp only [rd_T102, Int.toNat_natCast, List.getD_eq_getElem?_getD, List.getElem?_eq_getElem h, Option.getD_some]
theorem szTermS_eq (l : List S102) (n : Int) (h0 : 0 ≤ n) (h1 : n ≤ 1048576) (hl : l.length ≤ 9223372036854775807) : laws_szTermS.f l n = some (if n - (l.length : Int) < 0 then -1 else n - (l.length : Int)) := by
  have hw : wrap64 (n - (l.length : Int)) = n - (l.length : Int) := wrap_id (by omega) (by omega)
  simp only [laws_szTermS.f, hw]
  split <;> rfl
theorem toTermS_l (l : List S102) (hl : l.length ≤ 1048576) (d : Nat) : ∀ (i : Nat) (x : List S100), i + d = l.length → x.length = l.length → (∀ j, j < i → x[j]? = (l.map tmL)[j]?) → Ev (fun k => laws_toTermS.l0 k l x (i : Int)) (l.map tmL) := by
  induction d with
  | zero =>
    intro i x hi hx ht
    refine Ev.step (fun k => by rw [laws_toTermS.l0]) ?_
    simp only [if_neg (show ¬ (i : Int) < (l.length : Int) by omega)]
    obtain rfl : x = l.map tmL := ext_at (by simpa using hx) (fun j hj => ht j (by simp at hj; omega))
    exact Ev.now _
  | succ d ih =>
    intro i x hi hx ht
    refine Ev.step (fun k => by rw [laws_toTermS.l0]) ?_
    simp only [if_pos (show (i : Int) < (l.length : Int) by omega), if_pos (show 0 ≤ (i : Int) by omega), if_pos (show (i : Int) < (x.length : Int) by omega), wrap_succ (show i < 9223372036854775807 by omega), Int.toNat_natCast, laws_toTerm.f, Option.bind_some]
    refine ih (i + 1) _ (by omega) (by simpa using hx) (fun j hj => ?_)
    rw [List.getElem?_set]
    by_cases e : i = j
    · subst e
      rw [if_pos rfl, if_pos (by omega), rdTl_at l i (by omega), List.getElem?_map, List.getElem?_eq_getElem (show i < l.length by omega)]
      rfl
    · rw [if_neg e]; exact ht j (by omega)
theorem toTermS_ev (l : List S102) (hl : l.length ≤ 1048576) : Ev (fun k => laws_toTermS.f k l) (l.map tmL) := by
  simp only [laws_toTermS.f, if_pos (show 0 ≤ (l.length : Int) by omega), Int.toNat_natCast, if_pos (show l.length ≤ 17592186044416 by omega)]
  exact toTermS_l l hl l.length 0 _ (by omega) (by simp) (fun j hj => by omega)
theorem eqTermS_l (a : List S100) (ha : a.length ≤ 9223372036854775807) (d : Nat) : ∀ (i : Nat), i + d = a.length → Ev (fun k => laws_eqTermS.l0 k a a (i : Int)) true := by
  induction d with
  | zero =>
    intro i hi
    refine Ev.step (fun k => by rw [laws_eqTermS.l0]) ?_
    simp only [if_neg (show ¬ (i : Int) < (a.length : Int) by omega)]
    exact Ev.now _
  | succ d ih =>
    intro i hi
    refine Ev.step (fun k => by rw [laws_eqTermS.l0]) ?_
    simp only [if_pos (show (i : Int) < (a.length : Int) by omega), if_pos (show 0 ≤ (i : Int) by omega), wrap_succ (show i < 9223372036854775807 by omega), laws_eqTerm.f, if_true, Option.bind_some]
    exact ih (i + 1) (by omega)
theorem eqTermS_same (a : List S100) (ha : a.length ≤ 9223372036854775807) : Ev (fun k => laws_eqTermS.f k a a) true := by
  simp only [laws_eqTermS.f, if_true]
  exact eqTermS_l a ha a.length 0 (by omega)

end Go.Proofs.Ytbjmhdoagjmmcaa.Pure
