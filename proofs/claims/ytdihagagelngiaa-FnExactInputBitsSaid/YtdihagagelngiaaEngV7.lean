/- Contracts of functions, by the engine: rows of numbers and surroundings as laws compare and mark them. -/
import Derived.Test.YtdihagagelngiaaEngV6
import Derived.Test.YtdihagagelngiaaEngWl
namespace Go.Eng.C
open Go Go.Eng Go.RowKit Go.Proofs
set_option linter.unusedVariables false
set_option linter.unusedSimpArgs false
set_option maxRecDepth 10000
variable {X : FuncId → List AV → AV → List AV → Prop}
theorem nm_laws_eqInt64SS : (Try.f107.name == "runtime.NumGoroutine") = false := by decide
theorem nm_laws_markInt64SS : (Try.f108.name == "runtime.NumGoroutine") = false := by decide
theorem nm_laws_heldInt64SS : (Try.f109.name == "runtime.NumGoroutine") = false := by decide
theorem nm_laws_eqEnv : (Try.f57.name == "runtime.NumGoroutine") = false := by decide
theorem nm_laws_markEnv : (Try.f58.name == "runtime.NumGoroutine") = false := by decide
theorem nm_laws_heldEnv : (Try.f59.name == "runtime.NumGoroutine") = false := by decide
def totI : List (List Int) → Nat
  | [] => 0
  | l :: ls => l.length + totI ls
def markII : List (List Int) → Int → List (List Int)
  | [], _ => []
  | l :: ls, m => markI l m :: markII ls (m + l.length)
theorem markII_len : ∀ (l : List (List Int)) (m : Int), (markII l m).length = l.length
  | [], m => rfl
  | t :: l, m => by simp only [markII, List.length_cons, markII_len l]
theorem eqInt64SS (a b : List (List Int)) (hl : a.length ≤ 1152921504606846976) (hs : ∀ l ∈ a, l.length ≤ 1152921504606846976) {r : Bool} (hr : r = true ↔ a = b) : Ev Try.prog X (.fn 107 [.im a.length (encL (eR eI) a), .im b.length (encL (eR eI) b)] (bl r) [.dead, .dead]) := by
  refine Ev.fnW (env := [(0, .im a.length (encL (eR eI) a)), (1, .im b.length (encL (eR eI) b))]) Try.func107 rfl nm_laws_eqInt64SS rfl rfl (by kernel_rfl) (.cons rfl (.cons rfl .nil)) ?_
  refine go ?_
  refine WO.cmp rfl rfl rfl rfl rfl (fun h => ?_) (fun h => ?_)
  · refine go ?_
    exact retV rfl (by
      have : a ≠ b := by rintro rfl; exact h rfl
      cases r <;> simp_all) rfl rfl
  have h : a.length = b.length := by omega
  refine go ?_
  refine WC.loopS (S := Nat) (fun i => [(0, .im a.length (encL (eR eI) a)), (1, .im b.length (encL (eR eI) b)), (5, i64 i)]) (fun i => i ≤ a.length ∧ ∀ j < i, a.getD j [] = b.getD j []) (fun i => a.length - i) 0 (.cons rfl (.cons rfl (.cons rfl .nil))) ⟨by simp, by simp⟩ ?_
  rintro i ⟨h1, h2⟩
  refine go ?_
  refine WO.cmp rfl rfl rfl rfl rfl (fun h3 => ?_) (fun h3 => ?_)
  · refine go ?_
    obtain ⟨q, hq⟩ : ∃ q : Bool, q = true ↔ a.getD (i : Int).toNat [] = b.getD (i : Int).toNat [] := by
      by_cases he : a.getD (i : Int).toNat [] = b.getD (i : Int).toNat []
      · exact ⟨true, by simp only [he]⟩
      · exact ⟨false, by simp only [he]; simp⟩
    have hm : (a.getD (i : Int).toNat []).length ≤ 1152921504606846976 := by
      have hi : i < a.length := by omega
      apply hs
      simp [List.getD_eq_getElem?_getD, hi]
    refine WC.regionD ⟨[[], [], [0, 1], [0, 1, 2], [], [], [4, 5], [4, 5, 6], [0, 1, 2, 3, 4, 5, 6, 7], [0, 1, 2, 3, 4, 5, 6, 7, 8]], [0, 1, 2, 3, 4, 5, 6, 7, 8, 9], [], [17, 18, 19, 20, 21, 22, 23, 24, 25, 26], [0, 1, 2, 3, 4, 5, 6, 7, 8, 9], [([18, 21, 22, 23, 24], [18, 21, 22, 23, 24], false), ([17, 21, 22, 23, 24], [17, 21, 22, 23, 24], false), ([21, 22, 23, 24], [21, 22, 23, 24], false), ([21, 22, 23, 24], [21, 22, 23, 24], false), ([17, 18, 19, 20, 22], [17, 18, 19, 20, 22], false), ([17, 18, 19, 20, 21], [17, 18, 19, 20, 21], false), ([17, 18, 19, 20], [17, 18, 19, 20], false), ([17, 18, 19, 20], [17, 18, 19, 20], false), ([], [], false), ([], [], false)]⟩ (by kernel_rfl) rfl ?_
    refine WD.q rfl rfl rfl rfl rfl (QE.mvIm (.move _) rfl) rfl rfl rfl ?_
    refine WD.q rfl rfl rfl rfl rfl (QE.mvSc (.move _) rfl) rfl rfl rfl ?_
    refine WD.q rfl rfl rfl rfl rfl (QE.ixI (f := eR eI) [] rfl rfl (by omega) (by omega)) rfl rfl rfl ?_
    refine WD.q rfl rfl rfl rfl rfl (QE.ldI rfl rfl) rfl rfl rfl ?_
    refine WD.q rfl rfl rfl rfl rfl (QE.mvIm (.move _) rfl) rfl rfl rfl ?_
    refine WD.q rfl rfl rfl rfl rfl (QE.mvSc (.move _) rfl) rfl rfl rfl ?_
    refine WD.q rfl rfl rfl rfl rfl (QE.ixI (f := eR eI) [] rfl rfl (by omega) (by omega)) rfl rfl rfl ?_
    refine WD.q rfl rfl rfl rfl rfl (QE.ldI rfl rfl) rfl rfl rfl ?_
    refine WD.q rfl rfl rfl rfl rfl (QE.call rfl rfl (eqInt64S _ _ hm hq)) rfl rfl rfl ?_
    refine WD.q rfl rfl rfl rfl rfl (QE.not rfl) rfl rfl rfl ?_
    refine WD.nil ?_
    refine go ?_
    rw [Int.toNat_natCast] at hq
    refine WC.cond rfl (fun h4 => ?_) (fun h4 => ?_)
    · refine go ?_
      exact retV rfl (by
        have : a ≠ b := by rintro rfl; simp_all
        cases r <;> simp_all) rfl rfl
    · refine go ?_
      refine lpK.mk (i + 1) (.cons rfl (.cons rfl (.cons rfl .nil))) ⟨by omega, ?_⟩ (by omega)
      intro j hj
      by_cases e : j = i
      · subst e; apply hq.1; cases q <;> simp_all
      · exact h2 j (by omega)
  · refine go ?_
    exact retV rfl (by
      have : a = b := getD_ext h (fun j hj => h2 j (by omega))
      cases r <;> simp_all) rfl rfl
theorem markInt64SS (xs : List (List Int)) (m : Int) (h0 : 0 ≤ m) (hx : xs.length ≤ 1152921504606846976) (hs : ∀ l ∈ xs, l.length ≤ 1152921504606846976) (hb : m + totI xs ≤ 4611686018427387904) :
    Ev Try.prog X (.fn 108 [.ow 25 1 xs.length (encL (eO 2 1 eI) xs), i64 m] (i64 (m + totI xs)) [.ow 25 1 xs.length (encL (eO 2 1 eI) (markII xs m)), .dead]) := by
  refine Ev.fnW (env := [(0, .vw 1000000 [] 0 xs.length), (1, i64 m), (1000000, .ow 25 1 xs.length (encL (eO 2 1 eI) xs))]) Try.func108 rfl nm_laws_markInt64SS rfl rfl (by kernel_rfl) (.cons rfl (.cons rfl (.cons rfl .nil))) ?_
  refine go ?_
  refine WC.loopS (S := Nat × Int × List (List Int)) (fun s => [(0, .vw 1000000 [] 0 xs.length), (1, i64 s.2.1), (5, i64 s.1), (1000000, .ow 25 1 xs.length (encL (eO 2 1 eI) s.2.2))]) (fun s => s.1 ≤ xs.length ∧ 0 ≤ s.2.1 ∧ s.2.1 + totI (xs.drop s.1) = m + totI xs ∧ s.2.2.drop s.1 = xs.drop s.1 ∧ s.2.2.length = xs.length ∧ markII xs m = s.2.2.take s.1 ++ markII (xs.drop s.1) s.2.1) (fun s => xs.length - s.1) (0, m, xs) (.cons rfl (.cons rfl (.cons rfl (.cons rfl .nil)))) ⟨by simp, by simpa using h0, by simp, rfl, rfl, by simp⟩ ?_
  rintro ⟨i, m', ys⟩ ⟨h1, hm, ht, hd, hy, h2⟩
  dsimp only at h1 hm ht hd hy h2 ⊢
  refine go ?_
  refine WO.cmp rfl rfl rfl rfl rfl (fun h3 => ?_) (fun h3 => ?_)
  · have hi : i < xs.length := by omega
    have hg : ys.getD i [] = xs.getD i [] := getD_of_drop _ (hd.trans (drop_getD hi []))
    have hd2 : ys.drop (i + 1) = xs.drop (i + 1) := by
      have := congrArg List.tail hd
      simpa using this
    rw [drop_getD hi [], markII] at h2
    rw [drop_getD hi [], totI] at ht
    have hl : (xs.getD i []).length ≤ 1152921504606846976 := hs _ (by simp [List.getD_eq_getElem?_getD, hi])
    refine go ?_
    refine WO.ixM rfl rfl rfl (by rw [encL_length]; omega) rfl hi rfl rfl ?_
    refine WO.ldEO (f := eI) rfl rfl (Nat.mul_one i) rfl (by omega) rfl rfl ?_
    refine go ?_
    have hc := markInt64S (X := X) (ys.getD i []) m' hm (by rw [hg]; omega)
    refine WO.callE (f := eI) (xs := [.tmp 16]) rfl rfl rfl rfl (by omega) rfl rfl hc (markI_len _ _) rfl (by simp only [noIm, noIm_eI']) rfl rfl rfl rfl ?_
    rw [hg]
    refine go ?_
    refine lpK.mk (i + 1, m' + (xs.getD i []).length, ys.set i (markI (xs.getD i []) m')) (.cons rfl (.cons rfl (.cons rfl (.cons rfl .nil)))) ⟨by simp only; omega, by simp only; omega, by simp only; omega, ?_, by simp only [List.length_set, hy], ?_⟩ (by simp only; omega)
    · dsimp only
      rw [List.drop_set_of_lt (by omega), hd2]
    · dsimp only
      rw [h2, take_set (by omega), List.append_assoc]; rfl
  · have e : i = xs.length := by omega
    subst e
    have e2 : ys = markII xs m := by rw [h2, List.drop_length, markII, List.append_nil, List.take_of_length_le (by omega)]
    rw [List.drop_length, totI] at ht
    have ht' : m' = m + totI xs := by omega
    subst ht'
    refine go ?_
    exact retV rfl rfl (by rw [← e2]; rfl) rfl
theorem heldInt64SS (xs : List (List Int)) (m : Int) (h0 : 0 ≤ m) (hx : xs.length ≤ 1152921504606846976) (hb : m + totI xs ≤ 4611686018427387904) : Ev Try.prog X (.fn 109 [.im (markII xs m).length (encL (eR eI) (markII xs m)), i64 m] (i64 (m + totI xs)) [.dead, .dead]) := by
  have hl := markII_len xs m
  obtain ⟨R, hR⟩ : ∃ R, R = markII xs m := ⟨_, rfl⟩
  rw [← hR] at hl ⊢
  refine Ev.fnW (env := [(0, .im R.length (encL (eR eI) R)), (1, i64 m)]) Try.func109 rfl nm_laws_heldInt64SS rfl rfl (by kernel_rfl) (.cons rfl (.cons rfl .nil)) ?_
  refine go3 ?_
  refine WC.loopS (S := Nat × Int) (fun s => [(0, .im R.length (encL (eR eI) R)), (1, i64 s.2), (5, i64 s.1)]) (fun s => s.1 ≤ R.length ∧ 0 ≤ s.2 ∧ s.2 + totI (xs.drop s.1) = m + totI xs ∧ R.drop s.1 = markII (xs.drop s.1) s.2) (fun s => R.length - s.1) (0, m) (.cons rfl (.cons rfl (.cons rfl .nil))) ⟨Nat.zero_le _, h0, by simp, by simp [hR]⟩ ?_
  rintro ⟨i, m'⟩ ⟨h1, hm, ht, h2⟩
  dsimp only at h1 hm ht h2 ⊢
  refine go3 ?_
  refine WO.cmp rfl rfl rfl rfl rfl (fun h3 => ?_) (fun h3 => ?_)
  · have hi : i < R.length := by omega
    have hi2 : i < xs.length := by omega
    rw [drop_getD hi2 [], markII] at h2
    rw [drop_getD hi2 [], totI] at ht
    have hg := getD_of_drop [] h2
    have hd2 : R.drop (i + 1) = markII (xs.drop (i + 1)) (m' + (xs.getD i []).length) := by
      have := congrArg List.tail h2
      simpa using this
    refine go3 ?_
    refine WO.ixN (f := eR eI) [] rfl rfl rfl hi rfl ?_
    rw [hg]
    refine go3 ?_
    refine WO.call rfl rfl rfl (heldInt64S (xs.getD i []) m' hm (by omega)) rfl rfl ?_
    refine go3 ?_
    exact lpK.mk (i + 1, m' + (xs.getD i []).length) (.cons rfl (.cons rfl (.cons rfl .nil))) ⟨hi, by dsimp only; omega, by dsimp only; omega, hd2⟩ (show R.length - (i + 1) < R.length - i by omega)
  · have e : i = xs.length := by omega
    rw [e, List.drop_length, totI] at ht
    have : m' = m + totI xs := by omega
    refine go3 ?_
    exact retV rfl (by rw [this]) rfl rfl
theorem eqEnv (v : Vs) (h1 : v.vars.length ≤ 4194304) (h2 : v.cells.length ≤ 4194304) (h3 : ∀ l ∈ v.cells, l.length ≤ 4194304) : Ev Try.prog X (.fn 57 [.ag (enR v), .ag (enR v)] (bl true) [.dead, .dead]) := by
  refine Ev.fnW (env := [(0, .ag (enR v)), (1, .ag (enR v))]) Try.func57 rfl nm_laws_eqEnv rfl rfl (by kernel_rfl) (.cons rfl (.cons rfl .nil)) ?_
  refine go3 ?_
  refine WO.call rfl rfl rfl (eqInt64S v.vars v.vars (by omega) (r := true) (by simp)) rfl rfl ?_
  refine go3 ?_
  refine WO.call rfl rfl rfl (eqInt64SS v.cells v.cells (by omega) (fun l hl => by have := h3 l hl; omega) (r := true) (by simp)) rfl rfl ?_
  refine go3 ?_
  exact retV rfl rfl rfl rfl
/-- Surroundings marked from m on. -/
def mkV (v : Vs) (m : Int) : Vs := ⟨markI v.vars m, markII v.cells (m + v.vars.length)⟩
theorem heldEnv (v : Vs) (m : Int) (h0 : 0 ≤ m) (hx : v.cells.length ≤ 1152921504606846976) (hb : m + v.vars.length + totI v.cells ≤ 4611686018427387904) : Ev Try.prog X (.fn 59 [.ag (enR (mkV v m)), i64 m] (i64 (m + v.vars.length + totI v.cells)) [.dead, .dead]) := by
  refine Ev.fnW (env := [(0, .ag (enR (mkV v m))), (1, i64 m)]) Try.func59 rfl nm_laws_heldEnv rfl rfl (by kernel_rfl) (.cons rfl (.cons rfl .nil)) ?_
  refine go3 ?_
  refine WO.call rfl rfl rfl (heldInt64S v.vars m h0 (by omega)) rfl rfl ?_
  refine go3 ?_
  refine WO.call rfl rfl rfl (heldInt64SS v.cells (m + v.vars.length) (by omega) hx (by omega)) rfl rfl ?_
  refine go3 ?_
  exact retV rfl rfl rfl rfl
/-- Surroundings, owned, marked from m on. -/
def enM (v : Vs) (m : Int) : List AV := [.ow 2 1 v.vars.length (encL eI (markI v.vars m)), .ow 25 1 v.cells.length (encL (eO 2 1 eI) (markII v.cells (m + v.vars.length)))]
theorem whL_enM (v : Vs) (m : Int) : whL (enM v m) = true := by simp [enM, whL, whA, encL_len1, encO_len, markI_len, markII_len]
theorem noIm_enM (v : Vs) (m : Int) : noIm (.ag (enM v m)) = true := by simp only [enM, noIm, noImL, noIm_eI, noIm_eO, Bool.and_self]
theorem markEnv (v : Vs) (m : Int) (h0 : 0 ≤ m) (hx : v.cells.length ≤ 1152921504606846976) (hs : ∀ l ∈ v.cells, l.length ≤ 1152921504606846976) (hb : m + v.vars.length + totI v.cells ≤ 4611686018427387904) : Ev Try.prog X (.fn 58 [.ag (enO v), i64 m] (i64 (m + v.vars.length + totI v.cells)) [.ag (enM v m), i64 m]) := by
  have c1 := markInt64S (X := X) v.vars m h0 (by omega)
  have c2 := markInt64SS (X := X) v.cells (m + v.vars.length) (by omega) hx hs (by omega)
  refine Ev.fnT' (env := [(0, .ag (refL 1000000 [] 0 (enO v))), (1, i64 m), (1000000, .ag (enO v)), (1000001, i64 m)]) Try.func58 rfl nm_laws_markEnv rfl rfl (by kernel_rfl) (.cons rfl (.cons rfl (.cons rfl (.cons rfl .nil)))) ?_
  refine go3 ?_
  refine WO.boxH (r := 1000000) (bs := enO v) (cs := enO v) (hs := [.vw 2 [0] 0 v.vars.length, .vw 2 [1] 0 v.cells.length]) rfl rfl rfl rfl (.vw (.vw (.nil 2))) (takeAgQ (r := 1000000) (p := []) (cs := enO v) rfl (whL_enO v) rfl) rfl rfl rfl rfl ?_
  refine go3 ?_
  refine WO.q rfl (QE.ldOw rfl rfl rfl) rfl rfl ?_
  refine go3 ?_
  refine WO.callV (a := 0) (xs := [.tmp 7]) rfl rfl rfl rfl (encL_length _) rfl rfl c1 rfl (by simp only [noIm, noIm_eI]) rfl rfl rfl rfl rfl ?_
  refine go3 ?_
  refine WO.q rfl (QE.ldOw rfl rfl rfl) rfl rfl ?_
  refine go3 ?_
  refine WO.callV (a := 1) (xs := [.tmp 11]) rfl rfl rfl rfl (encL_length _) rfl rfl c2 rfl (by simp only [noIm, noIm_eO]) rfl rfl rfl rfl rfl ?_
  refine go3 ?_
  exact retT rfl rfl (.ag (takeVr (r := 2) (cs := enM v m) rfl (whL_enM v m)) (.plain rfl (.nil _)))
end Go.Eng.C
