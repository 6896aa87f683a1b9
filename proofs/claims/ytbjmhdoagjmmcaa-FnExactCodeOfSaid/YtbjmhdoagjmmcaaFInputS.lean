/- Part of the pure side: InputS. -/
import Derived.Test.YtbjmhdoagjmmcaaPCoreg
import Derived.Test.YtbjmhdoagjmmcaaPCoreg5
import Derived.Test.YtbjmhdoagjmmcaaPCoreg8
import Derived.Test.YtbjmhdoagjmmcaaTerm
set_option linter.unusedVariables false
set_option linter.unusedSimpArgs false
namespace Go.Proofs.Ytbjmhdoagjmmcaa.Pure
open Go.RowKit Go.Proofs.Ytbjmhdoagjmmcaa.PCore Go.Proofs.YtbjmhdoagjmmcaaW.PrintWords Go.Proofs.YtbjmhdoagjmmcaaW.PrintLast Go.Proofs.YtbjmhdoagjmmcaaW.PrintMore Go.Proofs.Ytbjmhdoagjmmcaa.Bs

def inL (s : S120) : S77 := ⟨s.f0, s.f1⟩
theorem rdIl_at (l : List S120) (i : Nat) (h : i < l.length) : rd_T120 l (i : Int) = l[i] := by
  simp only [rd_T120, Int.toNat_natCast, List.getD_eq_getElem?_getD, List.getElem?_eq_getElem h, Option.getD_some]
theorem szInputS_eq (l : List S120) (n : Int) (h0 : 0 ≤ n) (h1 : n ≤ 1048576) (hl : l.length ≤ 9223372036854775807) : laws_szInputS.f l n = some (if n - (l.length : Int) < 0 then -1 else n - (l.length : Int)) := by
  have hw : wrap64 (n - (l.length : Int)) = n - (l.length : Int) := wrap_id (by omega) (by omega)
  simp only [laws_szInputS.f, hw]
  split <;> rfl
theorem toInputS_l (l : List S120) (hl : l.length ≤ 1048576) (d : Nat) : ∀ (i : Nat) (x : List S77), i + d = l.length → x.length = l.length → (∀ j, j < i → x[j]? = (l.map inL)[j]?) → Ev (fun k => laws_toInputS.l0 k l x (i : Int)) (l.map inL) := by
  induction d with
  | zero =>
    intro i x hi hx ht
    refine Ev.step (fun k => by rw [laws_toInputS.l0]) ?_
    simp only [if_neg (show ¬ (i : Int) < (l.length : Int) by omega)]
    obtain rfl : x = l.map inL := ext_at (by simpa using hx) (fun j hj => ht j (by simp at hj; omega))
    exact Ev.now _
  | succ d ih =>
    intro i x hi hx ht
    refine Ev.step (fun k => by rw [laws_toInputS.l0]) ?_
    simp only [if_pos (show (i : Int) < (l.length : Int) by omega), if_pos (show 0 ≤ (i : Int) by omega), if_pos (show (i : Int) < (x.length : Int) by omega), wrap_succ (show i < 9223372036854775807 by omega), Int.toNat_natCast, laws_toInput.f, Option.bind_some]
    refine ih (i + 1) _ (by omega) (by simpa using hx) (fun j hj => ?_)
    rw [List.getElem?_set]
    by_cases e : i = j
    · subst e
      rw [if_pos rfl, if_pos (by omega), rdIl_at l i (by omega), List.getElem?_map, List.getElem?_eq_getElem (show i < l.length by omega)]
      rfl
    · rw [if_neg e]; exact ht j (by omega)
theorem toInputS_ev (l : List S120) (hl : l.length ≤ 1048576) : Ev (fun k => laws_toInputS.f k l) (l.map inL) := by
  simp only [laws_toInputS.f, if_pos (show 0 ≤ (l.length : Int) by omega), Int.toNat_natCast, if_pos (show l.length ≤ 17592186044416 by omega)]
  exact toInputS_l l hl l.length 0 _ (by omega) (by simp) (fun j hj => by omega)
theorem eqInputS_l (a : List S77) (ha : a.length ≤ 9223372036854775807) (d : Nat) : ∀ (i : Nat), i + d = a.length → Ev (fun k => laws_eqInputS.l0 k a a (i : Int)) true := by
  induction d with
  | zero =>
    intro i hi
    refine Ev.step (fun k => by rw [laws_eqInputS.l0]) ?_
    simp only [if_neg (show ¬ (i : Int) < (a.length : Int) by omega)]
    exact Ev.now _
  | succ d ih =>
    intro i hi
    refine Ev.step (fun k => by rw [laws_eqInputS.l0]) ?_
    simp only [if_pos (show (i : Int) < (a.length : Int) by omega), if_pos (show 0 ≤ (i : Int) by omega), wrap_succ (show i < 9223372036854775807 by omega), laws_eqInput.f, if_true, Option.bind_some]
    exact ih (i + 1) (by omega)
theorem eqInputS_same (a : List S77) (ha : a.length ≤ 9223372036854775807) : Ev (fun k => laws_eqInputS.f k a a) true := by
  simp only [laws_eqInputS.f, if_true]
  exact eqInputS_l a ha a.length 0 (by omega)
theorem rdIn_at (l : List S77) (i : Nat) (h : i < l.length) : rd_T77 l (i : Int) = l[i] := by
  simp only [rd_T77, Int.toNat_natCast, List.getD_eq_getElem?_getD, List.getElem?_eq_getElem h, Option.getD_some]
theorem rdIn_drop (l : List S77) (i : Nat) (h : i < l.length) : l.drop i = rd_T77 l (i : Int) :: l.drop (i + 1) := by
  rw [rdIn_at l i h, List.drop_eq_getElem_cons h]

end Go.Proofs.Ytbjmhdoagjmmcaa.Pure
