/- Contracts of functions, by the engine: rows of numbers and surroundings as laws compare and mark them. -/
import Derived.Test.YtbhdobjjhkkpkaaEngV6
import Derived.Test.YtbhdobjjhkkpkaaEngWl
namespace Go.Eng.C
open Go Go.Eng Go.RowKit Go.Proofs
set_option linter.unusedVariables false
set_option linter.unusedSimpArgs false
set_option maxRecDepth 10000
variable {X : FuncId → List AV → AV → List AV → Prop}
theorem nm_laws_eqInt64SS : (Try.f79.name == "runtime.NumGoroutine") = false := by decide
theorem nm_laws_eqEnv : (Try.f22.name == "runtime.NumGoroutine") = false := by decide
def totI : List (List Int) → Nat
  | [] => 0
  | l :: ls => l.length + totI ls
def markII : List (List Int) → Int → List (List Int)
  | [], _ => []
  | l :: ls, m => markI l m :: markII ls (m + l.length)
theorem markII_len : ∀ (l : List (List Int)) (m : Int), (markII l m).length = l.length
  | [], m => rfl
  | t :: l, m => by simp only [markII, List.length_cons, markII_len l]
theorem eqInt64SS (a b : List (List Int)) (hl : a.length ≤ 1152921504606846976) (hs : ∀ l ∈ a, l.length ≤ 1152921504606846976) {r : Bool} (hr : r = true ↔ a = b) : Ev Try.prog X (.fn 79 [.im a.length (encL (eR eI) a), .im b.length (encL (eR eI) b)] (bl r) [.dead, .dead]) := by
  refine Ev.fnW (env := [(0, .im a.length (encL (eR eI) a)), (1, .im b.length (encL (eR eI) b))]) Try.func79 rfl nm_laws_eqInt64SS rfl rfl (by kernel_rfl) (.cons rfl (.cons rfl .nil)) ?_
  refine go ?_
  refine WO.cmp rfl rfl rfl rfl rfl (fun h => ?_) (fun h => ?_)
  · refine go ?_
    exact retV rfl (by
      have : a ≠ b := by rintro rfl; exact h rfl
      cases r <;> simp_all) rfl rfl
  have h : a.length = b.length := by omega
  refine go ?_
  refine WC.loopS (S := Nat) (fun i => [(0, .im a.length (encL (eR eI) a)), (1, .im b.length (encL (eR eI) b)), (5, i64 i)]) (fun i => i ≤ a.length ∧ ∀ j < i, a.getD j [] = b.getD j []) (fun i => a.length - i) 0 (.cons rfl (.cons rfl (.cons rfl .nil))) ⟨by simp, by simp⟩ ?_
  rintro i ⟨h1, h2⟩
  refine go ?_
  refine WO.cmp rfl rfl rfl rfl rfl (fun h3 => ?_) (fun h3 => ?_)
  · refine go ?_
    obtain ⟨q, hq⟩ : ∃ q : Bool, q = true ↔ a.getD (i : Int).toNat [] = b.getD (i : Int).toNat [] := by
      by_cases he : a.getD (i : Int).toNat [] = b.getD (i : Int).toNat []
      · exact ⟨true, by simp only [he]⟩
      · exact ⟨false, by simp only [he]; simp⟩
    have hm : (a.getD (i : Int).toNat []).length ≤ 1152921504606846976 := by
      have hi : i < a.length := by omega
      apply hs
      simp [List.getD_eq_getElem?_getD, hi]
    refine WC.regionD ⟨[[], [], [0, 1], [0, 1, 2], [], [], [4, 5], [4, 5, 6], [0, 1, 2, 3, 4, 5, 6, 7], [0, 1, 2, 3, 4, 5, 6, 7, 8]], [0, 1, 2, 3, 4, 5, 6, 7, 8, 9], [], [17, 18, 19, 20, 21, 22, 23, 24, 25, 26], [0, 1, 2, 3, 4, 5, 6, 7, 8, 9], [([18, 21, 22, 23, 24], [18, 21, 22, 23, 24], false), ([17, 21, 22, 23, 24], [17, 21, 22, 23, 24], false), ([21, 22, 23, 24], [21, 22, 23, 24], false), ([21, 22, 23, 24], [21, 22, 23, 24], false), ([17, 18, 19, 20, 22], [17, 18, 19, 20, 22], false), ([17, 18, 19, 20, 21], [17, 18, 19, 20, 21], false), ([17, 18, 19, 20], [17, 18, 19, 20], false), ([17, 18, 19, 20], [17, 18, 19, 20], false), ([], [], false), ([], [], false)]⟩ (by kernel_rfl) rfl ?_
    refine WD.q rfl rfl rfl rfl rfl (QE.mvIm (.move _) rfl) rfl rfl rfl ?_
    refine WD.q rfl rfl rfl rfl rfl (QE.mvSc (.move _) rfl) rfl rfl rfl ?_
    refine WD.q rfl rfl rfl rfl rfl (QE.ixI (f := eR eI) [] rfl rfl (by omega) (by omega)) rfl rfl rfl ?_
    refine WD.q rfl rfl rfl rfl rfl (QE.ldI rfl rfl) rfl rfl rfl ?_
    refine WD.q rfl rfl rfl rfl rfl (QE.mvIm (.move _) rfl) rfl rfl rfl ?_
    refine WD.q rfl rfl rfl rfl rfl (QE.mvSc (.move _) rfl) rfl rfl rfl ?_
    refine WD.q rfl rfl rfl rfl rfl (QE.ixI (f := eR eI) [] rfl rfl (by omega) (by omega)) rfl rfl rfl ?_
    refine WD.q rfl rfl rfl rfl rfl (QE.ldI rfl rfl) rfl rfl rfl ?_
    refine WD.q rfl rfl rfl rfl rfl (QE.call rfl rfl (eqInt64S _ _ hm hq)) rfl rfl rfl ?_
    refine WD.q rfl rfl rfl rfl rfl (QE.not rfl) rfl rfl rfl ?_
    refine WD.nil ?_
    refine go ?_
    rw [Int.toNat_natCast] at hq
    refine WC.cond rfl (fun h4 => ?_) (fun h4 => ?_)
    · refine go ?_
      exact retV rfl (by
        have : a ≠ b := by rintro rfl; simp_all
        cases r <;> simp_all) rfl rfl
    · refine go ?_
      refine lpK.mk (i + 1) (.cons rfl (.cons rfl (.cons rfl .nil))) ⟨by omega, ?_⟩ (by omega)
      intro j hj
      by_cases e : j = i
      · subst e; apply hq.1; cases q <;> simp_all
      · exact h2 j (by omega)
  · refine go ?_
    exact retV rfl (by
      have : a = b := getD_ext h (fun j hj => h2 j (by omega))
      cases r <;> simp_all) rfl rfl
theorem eqEnv (v : Vs) (h1 : v.vars.length ≤ 4194304) (h2 : v.cells.length ≤ 4194304) (h3 : ∀ l ∈ v.cells, l.length ≤ 4194304) : Ev Try.prog X (.fn 22 [.ag (enR v), .ag (enR v)] (bl true) [.dead, .dead]) := by
  refine Ev.fnW (env := [(0, .ag (enR v)), (1, .ag (enR v))]) Try.func22 rfl nm_laws_eqEnv rfl rfl (by kernel_rfl) (.cons rfl (.cons rfl .nil)) ?_
  refine go3 ?_
  refine WO.call rfl rfl rfl (eqInt64S v.vars v.vars (by omega) (r := true) (by simp)) rfl rfl ?_
  refine go3 ?_
  refine WO.call rfl rfl rfl (eqInt64SS v.cells v.cells (by omega) (fun l hl => by have := h3 l hl; omega) (r := true) (by simp)) rfl rfl ?_
  refine go3 ?_
  exact retV rfl rfl rfl rfl
/-- Surroundings marked from m on. -/
def mkV (v : Vs) (m : Int) : Vs := ⟨markI v.vars m, markII v.cells (m + v.vars.length)⟩
/-- Surroundings, owned, marked from m on. -/
def enM (v : Vs) (m : Int) : List AV := [.ow 2 1 v.vars.length (encL eI (markI v.vars m)), .ow 23 1 v.cells.length (encL (eO 2 1 eI) (markII v.cells (m + v.vars.length)))]
theorem whL_enM (v : Vs) (m : Int) : whL (enM v m) = true := by simp [enM, whL, whA, encL_len1, encO_len, markI_len, markII_len]
theorem noIm_enM (v : Vs) (m : Int) : noIm (.ag (enM v m)) = true := by simp only [enM, noIm, noImL, noIm_eI, noIm_eO, Bool.and_self]
end Go.Eng.C
