/- Contracts of functions, by the engine: marks on statements and programs. -/
import Derived.Test.YtbhdobjjhkkpkaaEngV4
namespace Go.Eng.C
open Go Go.Eng Go.RowKit Go.Proofs
set_option linter.unusedVariables false
set_option linter.unusedSimpArgs false
set_option maxRecDepth 10000
variable {X : FuncId → List AV → AV → List AV → Prop}
/-- Statements marked from m on. -/
def markB : List St → Int → List St
  | [], _ => []
  | s :: l, m => ⟨m, m + 1, markS s.pl (m + 1 + 1), markS s.ex (m + 1 + 1 + 2 * s.pl.length)⟩ :: markB l (m + 1 + 1 + 2 * s.pl.length + 2 * s.ex.length)
theorem markB_len : ∀ (l : List St) (m : Int), (markB l m).length = l.length
  | [], m => rfl
  | t :: l, m => by simp only [markB, List.length_cons, markB_len l]
/-- How many marks statements take. -/
def mkS : List St → Int
  | [] => 0
  | s :: l => 2 + 2 * s.pl.length + 2 * s.ex.length + mkS l
theorem mkS_nn : ∀ l, 0 ≤ mkS l
  | [] => Int.le_refl 0
  | s :: l => by have := mkS_nn l; simp only [mkS]; omega
theorem mkS_le : ∀ {l : List St}, (∀ s ∈ l, s.pl.length ≤ 1048576 ∧ s.ex.length ≤ 1048576) → mkS l ≤ 4194306 * l.length
  | [], _ => by simp [mkS]
  | s :: l, h => by
    have h1 := h s (by simp)
    have h2 := mkS_le (l := l) fun x hx => h x (List.mem_cons_of_mem _ hx)
    simp only [mkS, List.length_cons]; omega
theorem noIm_stO : ∀ (l : List St), noImL (encL stO l) = true
  | [] => rfl
  | x :: l => by rw [encL_cons]; simp only [stO, List.cons_append, List.nil_append, noImL, noIm, noIm_tm, noIm_stO l, Bool.and_self]
set_option maxHeartbeats 8000000 in
theorem markStmtS (xs : List St) (m : Int) (h0 : 0 ≤ m) (hs : ∀ s ∈ xs, s.pl.length ≤ 1048576 ∧ s.ex.length ≤ 1048576) (hl : xs.length ≤ 1048576) (hb : m + mkS xs ≤ 4611686018427387904) :
    Ev Try.prog X (.fn 90 [.ow 122 4 xs.length (encL stO xs), i64 m] (i64 (m + mkS xs)) [.ow 122 4 xs.length (encL stO (markB xs m)), .dead]) := by
  refine Ev.fnW (env := [(0, .vw 1000000 [] 0 xs.length), (1, i64 m), (1000000, .ow 122 4 xs.length (encL stO xs))]) Try.func90 rfl nm_laws_markStmtS rfl rfl (by kernel_rfl) (.cons rfl (.cons rfl (.cons rfl .nil))) ?_
  refine go3 ?_
  refine WC.loopS (S := Nat × Int × List St) (fun s => [(0, .vw 1000000 [] 0 xs.length), (1, i64 s.2.1), (5, i64 s.1), (1000000, .ow 122 4 xs.length (encL stO s.2.2))]) (fun s => s.1 ≤ xs.length ∧ 0 ≤ s.2.1 ∧ s.2.1 + mkS (xs.drop s.1) = m + mkS xs ∧ s.2.2.drop s.1 = xs.drop s.1 ∧ s.2.2.length = xs.length ∧ markB xs m = s.2.2.take s.1 ++ markB (xs.drop s.1) s.2.1) (fun s => xs.length - s.1) (0, m, xs) (.cons rfl (.cons rfl (.cons rfl (.cons rfl .nil)))) ⟨by simp, by simpa using h0, by simp, rfl, rfl, by simp⟩ ?_
  rintro ⟨i, m', ys⟩ ⟨h1, hm, ht, hd, hy, h2⟩
  dsimp only at h1 hm ht hd hy h2 ⊢
  refine go3 ?_
  refine WO.cmp rfl rfl rfl rfl rfl (fun h3 => ?_) (fun h3 => ?_)
  · have hi : i < xs.length := by omega
    have hg : ys.getD i zst = xs.getD i zst := getD_of_drop _ (hd.trans (drop_getD hi zst))
    have hd2 : ys.drop (i + 1) = xs.drop (i + 1) := by
      have := congrArg List.tail hd
      simpa using this
    have hmem : xs.getD i zst ∈ xs := by simp [List.getD_eq_getElem?_getD, hi]
    obtain ⟨k1, k2⟩ := hs _ hmem
    have hnn := mkS_nn (xs.drop (i + 1))
    rw [drop_getD hi zst, markB] at h2
    rw [drop_getD hi zst, mkS] at ht
    rw [← hg] at h2 ht k1 k2
    obtain ⟨y, hy0⟩ : ∃ y, y = ys.getD i zst := ⟨_, rfl⟩
    rw [← hy0] at h2 ht k1 k2
    have c1 := markTermS (X := X) y.pl (m' + 1 + 1) (by omega) (by omega) (by omega)
    have c2 := markTermS (X := X) y.ex (m' + 1 + 1 + 2 * y.pl.length) (by omega) (by omega) (by omega)
    refine go3 ?_
    refine WO.ixM rfl rfl rfl (by rw [encL_length]; omega) rfl hi rfl rfl ?_
    refine go3 ?_
    refine WO.stE (f := stO) (i := i) (j := 0) zst ⟨m', y.n, y.pl, y.ex⟩ rfl rfl rfl (by omega) rfl rfl (by omega) rfl (by rw [← hy0]; rfl) ?_
    refine go3 ?_
    refine WO.ixM rfl rfl rfl (by rw [encL_length, List.length_set]; omega) rfl hi rfl rfl ?_
    refine go3 ?_
    refine WO.stE (f := stO) (i := i) (j := 1) zst ⟨m', m' + 1, y.pl, y.ex⟩ rfl rfl rfl (by omega) rfl rfl (by rw [List.length_set]; omega) rfl (by rw [getD_set_self (by omega)]; rfl) ?_
    rw [List.set_set]
    refine go3 ?_
    refine WO.ixM rfl rfl rfl (by rw [encL_length, List.length_set]; omega) rfl hi rfl rfl ?_
    refine go3 ?_
    refine WO.ldX (f := stO) (i := i) (j := 2) zst rfl rfl rfl (by omega) rfl (by rw [List.length_set]; omega) (by rw [getD_set_self (by omega)]; rfl) rfl rfl ?_
    refine go3 ?_
    refine WO.callX (f := stO) (i := i) (j := 2) (xs := [.tmp 31]) zst ⟨m', m' + 1, markS y.pl (m' + 1 + 1), y.ex⟩ rfl rfl rfl (by omega) rfl (by rw [List.length_set]; omega) (by rw [getD_set_self (by omega)]; rfl) (encL_length _) (by rw [getD_set_self (by omega)]; simp only [stO, markS_len]; rfl) rfl rfl c1 rfl (by simp only [noIm, noIm_tm]) rfl rfl rfl rfl rfl rfl rfl rfl ?_
    rw [List.set_set]
    refine go3 ?_
    refine WO.ixM rfl rfl rfl (by rw [encL_length, List.length_set]; omega) rfl hi rfl rfl ?_
    refine go3 ?_
    refine WO.ldX (f := stO) (i := i) (j := 3) zst rfl rfl rfl (by omega) rfl (by rw [List.length_set]; omega) (by rw [getD_set_self (by omega)]; rfl) rfl rfl ?_
    refine go3 ?_
    refine WO.callX (f := stO) (i := i) (j := 3) (xs := [.tmp 38]) zst ⟨m', m' + 1, markS y.pl (m' + 1 + 1), markS y.ex (m' + 1 + 1 + 2 * y.pl.length)⟩ rfl rfl rfl (by omega) rfl (by rw [List.length_set]; omega) (by rw [getD_set_self (by omega)]; rfl) (encL_length _) (by rw [getD_set_self (by omega)]; simp only [stO, markS_len]; rfl) rfl rfl c2 rfl (by simp only [noIm, noIm_tm]) rfl rfl rfl rfl rfl rfl rfl rfl ?_
    rw [List.set_set]
    refine go3 ?_
    refine lpK.mk (i + 1, m' + 1 + 1 + 2 * y.pl.length + 2 * y.ex.length, ys.set i ⟨m', m' + 1, markS y.pl (m' + 1 + 1), markS y.ex (m' + 1 + 1 + 2 * y.pl.length)⟩) (.cons rfl (.cons rfl (.cons rfl (.cons rfl .nil)))) ⟨by simp only; omega, by simp only; omega, by simp only; omega, ?_, by simp only [List.length_set, hy], ?_⟩ (by simp only; omega)
    · dsimp only
      rw [List.drop_set_of_lt (by omega), hd2]
    · dsimp only
      rw [h2, take_set (by omega), List.append_assoc]; rfl
  · have e : i = xs.length := by omega
    subst e
    have e2 : ys = markB xs m := by rw [h2, List.drop_length, markB, List.append_nil, List.take_of_length_le (by omega)]
    rw [List.drop_length, mkS] at ht
    have ht' : m' = m + mkS xs := by omega
    subst ht'
    refine go3 ?_
    exact retV rfl rfl (by rw [← e2]; rfl) rfl
/-- A program after its marks. -/
def prM (p : Pr) (m : Int) : List AV := [i64 p.w, .ow 143 2 p.lows.length (encL inp (markN p.lows m)), .ow 143 2 p.secs.length (encL inp (markN p.secs (m + 2 * p.lows.length))), i64 p.temps, .ow 2 1 p.arrs.length (encL eI (markI p.arrs (m + 2 * p.lows.length + 2 * p.secs.length))), .ow 122 4 p.body.length (encL stO (markB p.body (m + 2 * p.lows.length + 2 * p.secs.length + p.arrs.length)))]
theorem whL_prM (p : Pr) (m : Int) : whL (prM p m) = true := by simp [prM, whL, whA, encL_length, markN_len, markI_len, markB_len]
theorem noIm_inp' : ∀ (l : List Inp), noImL (encL inp l) = true
  | [] => rfl
  | x :: l => by rw [encL_cons]; simp only [inp, List.cons_append, List.nil_append, noImL, noIm, noIm_inp' l, Bool.and_self]
theorem noIm_eI' : ∀ (l : List Int), noImL (encL eI l) = true
  | [] => rfl
  | x :: l => by rw [encL_cons]; simp only [eI, List.cons_append, List.nil_append, noImL, noIm, noIm_eI' l, Bool.and_self]
set_option maxHeartbeats 8000000 in
theorem markProg (p : Pr) (m : Int) (hB : PB p) (h0 : 0 ≤ m) (h1 : m ≤ 1048576) : Ev Try.prog X (.fn 29 [.ag (prO p), i64 m] (i64 (m + 2 * p.lows.length + 2 * p.secs.length + p.arrs.length + mkS p.body)) [.ag (prM p m), i64 m]) := by
  obtain ⟨b1, b2, b3, b4, b5⟩ := hB
  have hk := mkS_le b5
  have hk0 := mkS_nn p.body
  have c1 := markInputS (X := X) p.lows m h0 (by omega) (by omega)
  have c2 := markInputS (X := X) p.secs (m + 2 * p.lows.length) (by omega) (by omega) (by omega)
  have c3 := markInt64S (X := X) p.arrs (m + 2 * p.lows.length + 2 * p.secs.length) (by omega) (by omega)
  have c4 := markStmtS (X := X) p.body (m + 2 * p.lows.length + 2 * p.secs.length + p.arrs.length) (by omega) b5 b4 (by omega)
  refine Ev.fnT' (env := [(0, .ag (refL 1000000 [] 0 (prO p))), (1, i64 m), (1000000, .ag (prO p)), (1000001, i64 m)]) Try.func29 rfl nm_laws_markProg rfl rfl (by kernel_rfl) (.cons rfl (.cons rfl (.cons rfl (.cons rfl .nil)))) ?_
  refine go3 ?_
  refine WO.boxH (r := 1000000) (bs := prO p) (cs := prO p) (hs := [i64 p.w, .vw 2 [1] 0 p.lows.length, .vw 2 [2] 0 p.secs.length, i64 p.temps, .vw 2 [4] 0 p.arrs.length, .vw 2 [5] 0 p.body.length]) rfl rfl rfl rfl (.pl rfl (.vw (.vw (.pl rfl (.vw (.vw (.nil 6))))))) (takeAgQ (r := 1000000) (p := []) (cs := prO p) rfl (whL_prO p) rfl) rfl rfl rfl rfl ?_
  refine go3 ?_
  refine WO.q rfl (QE.ldOw rfl rfl rfl) rfl rfl ?_
  refine go3 ?_
  refine WO.callV (a := 1) (xs := [.tmp 7]) rfl rfl rfl rfl (encL_length _) rfl rfl c1 rfl (by simp only [noIm, noIm_inp']) rfl rfl rfl rfl rfl ?_
  refine go3 ?_
  refine WO.q rfl (QE.ldOw rfl rfl rfl) rfl rfl ?_
  refine go3 ?_
  refine WO.callV (a := 2) (xs := [.tmp 11]) rfl rfl rfl rfl (encL_length _) rfl rfl c2 rfl (by simp only [noIm, noIm_inp']) rfl rfl rfl rfl rfl ?_
  refine go3 ?_
  refine WO.q rfl (QE.ldOw rfl rfl rfl) rfl rfl ?_
  refine go3 ?_
  refine WO.callV (a := 4) (xs := [.tmp 15]) rfl rfl rfl rfl (encL_length _) rfl rfl c3 rfl (by simp only [noIm, noIm_eI']) rfl rfl rfl rfl rfl ?_
  refine go3 ?_
  refine WO.q rfl (QE.ldOw rfl rfl rfl) rfl rfl ?_
  refine go3 ?_
  refine WO.callV (a := 5) (xs := [.tmp 19]) rfl rfl rfl rfl (encL_length _) rfl rfl c4 rfl (by simp only [noIm, noIm_stO]) rfl rfl rfl rfl rfl ?_
  refine go3 ?_
  exact retT rfl rfl (.ag (takeVr (r := 2) (cs := prM p m) rfl (whL_prM p m)) (.plain rfl (.nil _)))
end Go.Eng.C
