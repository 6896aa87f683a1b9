/- Contracts of functions, by the engine: runs, of the program: values, a StPut, nodes. -/
import Derived.Test.YtbhdobjjhkkpkaaEngB7
import Derived.Test.YtbhdobjjhkkpkaaEngPf
import Derived.Test.YtbhdobjjhkkpkaaEngWg
namespace Go.Eng.C
open Go Go.Eng Go.RowKit Go.Proofs
set_option linter.unusedVariables false
set_option linter.unusedSimpArgs false
set_option maxRecDepth 10000
variable {X : FuncId → List AV → AV → List AV → Prop}
theorem nm_impl_machine_value : (Try.f212.name == "runtime.NumGoroutine") = false := by decide
theorem nm_impl_machine_put : (Try.f210.name == "runtime.NumGoroutine") = false := by decide
theorem nm_impl_machine_do : (Try.f162.name == "runtime.NumGoroutine") = false := by decide
theorem nm_impl_machine_step : (Try.f199.name == "runtime.NumGoroutine") = false := by decide
theorem nm_impl_catchOf : (Try.f211.name == "runtime.NumGoroutine") = false := by decide
/-- The machine's cells: owned, and only read. -/
def rowsO (l : List (List Int)) : AV := .ow 23 1 l.length (encL (eO 2 1 eI) l)
def mc (p : Pr) (s : Mc) : List AV := [.ip (prR p), ints s.v.vars, rowsO s.v.cells, ints s.o]
def mcR (p : Pr) (s : Mc) : List AV := [.ip (prR p), .im s.v.vars.length (encL eI s.v.vars), .im s.v.cells.length (encL eRow s.v.cells), .im s.o.length (encL eI s.o)]
theorem hardL_rows : ∀ (l : List (List Int)), hardL (encL (eO 2 1 eI) l) = encL eRow l
  | [] => rfl
  | x :: l => by
    rw [encL_cons, encL_cons]
    simp only [eO, eRow, List.cons_append, List.nil_append, hardL, Eng.hard, hardL_pl (encL_pl (f := eI) _), hardL_rows l]
theorem hardL_mc (p : Pr) (s : Mc) : hardL (mc p s) = mcR p s := by
  simp only [mc, mcR, rowsO, hardL, Eng.hard, hardL_pl (encL_pl (f := eI) _), hardL_rows]
theorem rows_at {l : List (List Int)} {i : Nat} (h : i < l.length) : (encL (eO 2 1 eI) l)[i]? = some (ints (l.getD i [])) := by
  have := encL_get (f := eO 2 1 eI) (sz := 1) (j := 0) h (by omega) []
  simpa [eO] using this
theorem rows_set {l : List (List Int)} {i : Nat} (h : i < l.length) (y : List Int) : (encL (eO 2 1 eI) l).set i (ints y) = encL (eO 2 1 eI) (l.set i y) := by
  have := encL_set (f := eO 2 1 eI) (sz := 1) (j := 0) (c := ints y) (y := y) h (by omega) [] rfl
  simpa using this
theorem rows_len (l : List (List Int)) : (encL (eO 2 1 eI) l).length = l.length := by
  have := encL_length (f := eO 2 1 eI) (sz := 1) l; omega
theorem ints_set {l : List Int} {i : Nat} (h : i < l.length) (x : Int) : (encL eI l).set i (i64 x) = encL eI (l.set i x) := by
  have := encL_set (f := eI) (sz := 1) (j := 0) (c := i64 x) (y := x) h (by omega) 0 rfl
  simpa using this
theorem mvalueN (p : Pr) (s : Mc) (e : List Tm) (hB : PB p) (hp : RP p) (he : reckOk p e) (hv : EOk p s.v) (h0 : (rk p.w s.v e []).2 = 0) : Ev Try.prog X (.fn 212 [.ip (mcR p s), .im e.length (encL tm e)] (.tu [i64 (rk p.w s.v e []).1, .ag [i64 0, i64 0]]) [.dead, .dead]) := by
  have c := Ev.cut2' (cs2 := .im s.v.vars.length (encL eI s.v.vars) :: .im s.v.cells.length (encL eRow s.v.cells) :: [.im s.o.length (encL eI s.o)]) [.im s.o.length (encL eI s.o)] (reckon (X := X) p s.v e hp.w1 hp.w8 hB he.1 (hv.fit he)) rfl
  rw [h0] at c
  refine Ev.fnW (env := [(0, .ip (mcR p s)), (1, .im e.length (encL tm e))]) Try.func212 rfl nm_impl_machine_value rfl rfl (by kernel_rfl) (.cons rfl (.cons rfl .nil)) ?_
  refine go3 ?_
  refine WC.regionDd ⟨[[], [0], [0, 1], [0, 1, 2], [], [4], [4, 5], [], [0, 1, 2, 3, 4, 5, 6, 7], [0, 1, 2, 3, 4, 5, 6, 7, 8], [0, 1, 2, 3, 4, 5, 6, 7, 8, 9], [0, 1, 2, 3, 4, 5, 6, 7, 8, 9], [0, 1, 2, 3, 4, 5, 6, 7, 8, 9, 10], [0, 1, 2, 3, 4, 5, 6, 7, 8, 9, 10, 11, 12]], [0, 1, 2, 3, 4, 5, 6, 7, 9, 10, 11, 12], [], [9, 10, 11, 12, 13, 14, 15, 16, 8, 18, 19, 6], [0, 1, 2, 3, 4, 5, 6, 7, 8, 9, 10, 11, 12, 13], [([13, 14, 15, 16], [13, 14, 15, 16], false), ([13, 14, 15, 16], [13, 14, 15, 16], false), ([13, 14, 15, 16], [13, 14, 15, 16], false), ([13, 14, 15, 16], [13, 14, 15, 16], false), ([9, 10, 11, 12, 16], [9, 10, 11, 12, 16], false), ([9, 10, 11, 12, 16], [9, 10, 11, 12, 16], false), ([9, 10, 11, 12, 16], [9, 10, 11, 12, 16], false), ([9, 10, 11, 12, 13, 14, 15], [9, 10, 11, 12, 13, 14, 15], false), ([], [], false), ([], [], false), ([19], [19], false), ([18, 6], [18, 6], false), ([19], [19], false), ([], [], false)]⟩ (by kernel_rfl) ?_
  refine go3 ?_
  refine WO.call rfl rfl rfl c rfl rfl ?_
  refine go3 ?_
  refine WO.bld (cs := [i64 0, i64 0]) rfl rfl rfl rfl ?_
  refine go3 ?_
  exact retVC rfl rfl rfl rfl rfl rfl rfl rfl
theorem mvalueT (p : Pr) (s : Mc) (e : List Tm) (hB : PB p) (hp : RP p) (he : reckOk p e) (hv : EOk p s.v) (h0 : (rk p.w s.v e []).2 ≠ 0) : Ev Try.prog X (.fn 212 [.ip (mcR p s), .im e.length (encL tm e)] (.tu [i64 0, .ag [i64 2, i64 (rk p.w s.v e []).2]]) [.dead, .dead]) := by
  have c := Ev.cut2' (cs2 := .im s.v.vars.length (encL eI s.v.vars) :: .im s.v.cells.length (encL eRow s.v.cells) :: [.im s.o.length (encL eI s.o)]) [.im s.o.length (encL eI s.o)] (reckon (X := X) p s.v e hp.w1 hp.w8 hB he.1 (hv.fit he)) rfl
  generalize (rk p.w s.v e []).2 = tr at *
  refine Ev.fnW (env := [(0, .ip (mcR p s)), (1, .im e.length (encL tm e))]) Try.func212 rfl nm_impl_machine_value rfl rfl (by kernel_rfl) (.cons rfl (.cons rfl .nil)) ?_
  refine go3 ?_
  refine WC.regionDd ⟨[[], [0], [0, 1], [0, 1, 2], [], [4], [4, 5], [], [0, 1, 2, 3, 4, 5, 6, 7], [0, 1, 2, 3, 4, 5, 6, 7, 8], [0, 1, 2, 3, 4, 5, 6, 7, 8, 9], [0, 1, 2, 3, 4, 5, 6, 7, 8, 9], [0, 1, 2, 3, 4, 5, 6, 7, 8, 9, 10], [0, 1, 2, 3, 4, 5, 6, 7, 8, 9, 10, 11, 12]], [0, 1, 2, 3, 4, 5, 6, 7, 9, 10, 11, 12], [], [9, 10, 11, 12, 13, 14, 15, 16, 8, 18, 19, 6], [0, 1, 2, 3, 4, 5, 6, 7, 8, 9, 10, 11, 12, 13], [([13, 14, 15, 16], [13, 14, 15, 16], false), ([13, 14, 15, 16], [13, 14, 15, 16], false), ([13, 14, 15, 16], [13, 14, 15, 16], false), ([13, 14, 15, 16], [13, 14, 15, 16], false), ([9, 10, 11, 12, 16], [9, 10, 11, 12, 16], false), ([9, 10, 11, 12, 16], [9, 10, 11, 12, 16], false), ([9, 10, 11, 12, 16], [9, 10, 11, 12, 16], false), ([9, 10, 11, 12, 13, 14, 15], [9, 10, 11, 12, 13, 14, 15], false), ([], [], false), ([], [], false), ([19], [19], false), ([18, 6], [18, 6], false), ([19], [19], false), ([], [], false)]⟩ (by kernel_rfl) ?_
  refine go3 ?_
  refine WO.call rfl rfl rfl c rfl rfl ?_
  refine go3 ?_
  refine WO.bld (cs := [i64 2, i64 tr]) rfl rfl rfl rfl ?_
  refine go3 ?_
  exact retVC rfl rfl rfl rfl rfl rfl rfl rfl
theorem getN_row (p : Pr) (s : Mc) {N : Nat} (h : N < s.v.cells.length) : getN [2, N] (AV.op (mc p s)) = some (ints (s.v.cells.getD N [])) := by
  simp only [getN, kids, mc, rowsO, Option.bind_some, List.getElem?_cons_succ, List.getElem?_cons_zero, rows_at h]
theorem setN_row (p : Pr) (s : Mc) {N A : Nat} (h : N < s.v.cells.length) (hA : A < (s.v.cells.getD N []).length) {x : Int} : setN [2, N] (AV.op (mc p s)) (.ow 2 1 (s.v.cells.getD N []).length ((encL eI (s.v.cells.getD N [])).set A (i64 x))) = .op (mc p ⟨setC s.v N A x, s.o⟩) := by
  have e1 : AV.ow 2 1 (s.v.cells.getD N []).length ((encL eI (s.v.cells.getD N [])).set A (i64 x)) = ints ((s.v.cells.getD N []).set A x) := by rw [ints_set hA, ints, List.length_set]
  rw [e1]
  simp only [setN, kids, mc, rowsO, List.getElem?_cons_succ, List.getElem?_cons_zero, rows_at h, withKids, rows_set h, setC, List.set_cons_succ, List.set_cons_zero, List.length_set]
/-- How statements end. -/
abbrev hlt (q : Rn) : AV := .ag [i64 q.2.1, i64 q.2.2]
set_option maxHeartbeats 4000000 in
theorem mput (p : Pr) (t : St) (rest : List AV) (s : Mc) (hB : PB p) (hp : RP p) (ht : stOk p t) (h1 : t.op = 1) (hs : MOk p s) : Ev Try.prog X (.fn 210 [.op (mc p s), .ip (stR t ++ rest)] (hlt (putN p t s)) [.op (mc p (putN p t s).1), .dead]) := by
  obtain ⟨m1, m2, m3, m4⟩ := (stOk1 h1).1 ht
  obtain ⟨⟨a1, a1'⟩, a2⟩ := rkIn hp.w1 hp.w8 m1.2.1 hs.v
  have hsz := sizeW_bd hp.w8
  obtain ⟨N, hN⟩ : ∃ N : Nat, t.n = N := ⟨t.n.toNat, by omega⟩
  obtain ⟨op, n, pl, ex⟩ := t
  dsimp only at *
  subst hN
  have hNa : N < p.arrs.length := by omega
  obtain ⟨c1, c2⟩ := hs.v.c N hNa
  have hNc : N < s.v.cells.length := by rw [hs.v.m]; exact hNa
  have hm : p.arrs.getD N 0 ∈ p.arrs := by simp [List.getD_eq_getElem?_getD, hNa]
  refine Ev.fnW (env := [(0, .ad 1000000 [] 0), (1, .ip (stR ⟨op, N, pl, ex⟩ ++ rest)), (1000000, .op (mc p s))]) Try.func210 rfl nm_impl_machine_put rfl rfl (by kernel_rfl) (.cons rfl (.cons rfl (.cons rfl .nil))) ?_
  refine go3 ?_
  unfold putN
  dsimp only
  by_cases t1 : (rk p.w s.v pl []).2 = 0
  · refine WO.callF rfl (.cons (frzI rfl (hardL_mc p s)) (.cons (.plain _ rfl) .nil)) (mvalueN p s pl hB hp m1.2.1 hs.v t1) rfl rfl rfl ?_
    refine go3 ?_
    rw [if_neg (by omega)]
    generalize (rk p.w s.v pl []).1 = at_ at *
    by_cases t2 : (rk p.w s.v ex []).2 = 0
    · refine WO.callF rfl (.cons (frzI rfl (hardL_mc p s)) (.cons (.plain _ rfl) .nil)) (mvalueN p s ex hB hp m2.2.1 hs.v t2) rfl rfl rfl ?_
      refine go3 ?_
      rw [if_neg (by omega)]
      generalize (rk p.w s.v ex []).1 = x at *
      refine WC.regionDd ⟨[[], [], [1], [1, 2], [1, 2, 3], [1, 2, 3, 4], [1, 2, 3, 4, 5], [1, 2, 3, 4, 5, 6], [], [8], [8, 9], [8, 9, 10], [1, 2, 3, 4, 5, 6, 7, 8, 9, 10, 11], [1, 2, 3, 4, 5, 6, 7, 8, 9, 10, 11, 12], [0, 1, 2, 3, 4, 5, 6, 7, 8, 9, 10, 11, 12, 13]], [0, 1, 2, 3, 4, 5, 6, 7, 8, 9, 10, 11, 12, 13, 14], [], [34, 35, 36, 37, 38, 39, 40, 41, 42, 43, 44, 45, 46, 47, 48], [0, 1, 2, 3, 4, 5, 6, 7, 8, 9, 10, 11, 12, 13, 14], [([35, 36, 37, 38, 39, 40, 41, 42, 43, 44, 45, 46, 47], [35, 36, 37, 38, 39, 40, 41, 42, 43, 44, 45, 46, 47], false), ([34, 42, 43, 44, 45], [34, 42, 43, 44, 45], false), ([34, 42, 43, 44, 45], [34, 42, 43, 44, 45], false), ([34, 42, 43, 44, 45], [34, 42, 43, 44, 45], false), ([34, 42, 43, 44, 45], [34, 42, 43, 44, 45], false), ([34, 42, 43, 44, 45], [34, 42, 43, 44, 45], false), ([34, 42, 43, 44, 45], [34, 42, 43, 44, 45], false), ([34, 42, 43, 44, 45], [34, 42, 43, 44, 45], false), ([34, 35, 36, 37, 38, 39, 40, 41], [34, 35, 36, 37, 38, 39, 40, 41], false), ([34, 35, 36, 37, 38, 39, 40, 41], [34, 35, 36, 37, 38, 39, 40, 41], false), ([34, 35, 36, 37, 38, 39, 40, 41], [34, 35, 36, 37, 38, 39, 40, 41], false), ([34, 35, 36, 37, 38, 39, 40, 41], [34, 35, 36, 37, 38, 39, 40, 41], false), ([34], [34], false), ([34], [34], false), ([], [], false)]⟩ (by kernel_rfl) ?_
      refine go3 ?_
      refine WD.q rfl rfl rfl rfl rfl (QE.ixN (f := eI) 0 rfl rfl hNa) rfl rfl rfl ?_
      refine go3 ?_
      by_cases t3 : p.arrs.getD N 0 ≤ at_
      · refine WD.q rfl rfl rfl rfl rfl (QE.cmpT rfl rfl rfl t3) rfl rfl rfl ?_
        refine go3 ?_
        refine WO.bld (cs := [i64 2, i64 2]) rfl rfl rfl rfl ?_
        refine go3 ?_
        rw [Int.toNat_natCast, if_pos (by omega)]
        exact retC rfl rfl rfl rfl rfl rfl rfl
      · refine WD.q rfl rfl rfl rfl rfl (QE.cmpF rfl rfl rfl t3) rfl rfl rfl ?_
        refine go3 ?_
        obtain ⟨A, hA⟩ : ∃ A : Nat, at_ = A := ⟨at_.toNat, by omega⟩
        subst hA
        have hAl : A < (s.v.cells.getD N []).length := by omega
        refine WC.regionDd ⟨[[], [0], [0, 1], [0, 1, 2], [0, 1, 2, 3], [], [5], [5, 6], [5, 6, 7], [0, 1, 2, 3, 4, 5, 6, 7, 8], [0, 1, 2, 3, 4, 5, 6, 7, 8, 9], [], [], [0, 1, 2, 3, 4, 5, 6, 7, 8, 9, 10, 11, 12], [0, 1, 2, 3, 4, 5, 6, 7, 8, 9, 10, 11, 12, 13]], [0, 1, 2, 3, 4, 5, 6, 7, 8, 9, 10, 11, 12, 13], [], [50, 51, 52, 53, 54, 55, 56, 57, 58, 59, 60, 61, 62, 63], [0, 1, 2, 3, 4, 5, 6, 7, 8, 9, 10, 11, 12, 13, 14], [([55, 56, 57, 58, 61, 62], [55, 56, 57, 58, 61, 62], false), ([55, 56, 57, 58, 61, 62], [55, 56, 57, 58, 61, 62], false), ([55, 56, 57, 58, 61, 62], [55, 56, 57, 58, 61, 62], false), ([55, 56, 57, 58, 61, 62], [55, 56, 57, 58, 61, 62], false), ([55, 56, 57, 58, 61, 62], [55, 56, 57, 58, 61, 62], false), ([50, 51, 52, 53, 54, 61, 62], [50, 51, 52, 53, 54, 61, 62], false), ([50, 51, 52, 53, 54, 61, 62], [50, 51, 52, 53, 54, 61, 62], false), ([50, 51, 52, 53, 54, 61, 62], [50, 51, 52, 53, 54, 61, 62], false), ([50, 51, 52, 53, 54, 61, 62], [50, 51, 52, 53, 54, 61, 62], false), ([61, 62], [61, 62], false), ([61, 62], [61, 62], false), ([50, 51, 52, 53, 54, 55, 56, 57, 58, 59, 60, 62], [50, 51, 52, 53, 54, 55, 56, 57, 58, 59, 60, 62], false), ([50, 51, 52, 53, 54, 55, 56, 57, 58, 59, 60, 61], [50, 51, 52, 53, 54, 55, 56, 57, 58, 59, 60, 61], false), ([], [], false), ([], [], false)]⟩ (by kernel_rfl) ?_
        refine go3 ?_
        refine WD.q rfl rfl rfl rfl rfl (QE.ldOwP (p := []) (i := 2) rfl rfl rfl) rfl rfl rfl ?_
        refine go3 ?_
        refine WD.q rfl rfl rfl rfl rfl (QE.ixP N rfl rfl (by rw [rows_len]; exact Nat.le_refl _) rfl hNc) rfl rfl rfl ?_
        refine go3 ?_
        refine WD.q rfl rfl rfl rfl rfl (QE.ldOwP (p := [2]) (i := N) rfl rfl (rows_at hNc)) rfl rfl rfl ?_
        refine go3 ?_
        refine WD.q rfl rfl rfl rfl rfl (QE.ixP A rfl (getN_row p s hNc) (by rw [encL_len1]; exact Nat.le_refl _) rfl hAl) rfl rfl rfl ?_
        refine go3 ?_
        refine WO.stP (p := [2, N]) (i := A) (z := .op (mc p ⟨setC s.v N A x, s.o⟩)) rfl rfl rfl (getN_row p s hNc) (by rw [encL_len1]; exact hAl) rfl (setN_row p s hNc hAl) rfl ?_
        refine go3 ?_
        refine WO.bld (cs := [i64 0, i64 0]) rfl rfl rfl rfl ?_
        refine go3 ?_
        rw [Int.toNat_natCast, if_neg (by omega)]
        exact retC rfl rfl rfl rfl rfl rfl rfl
    · refine WO.callF rfl (.cons (frzI rfl (hardL_mc p s)) (.cons (.plain _ rfl) .nil)) (mvalueT p s ex hB hp m2.2.1 hs.v t2) rfl rfl rfl ?_
      rw [if_pos (by omega)]
      generalize (rk p.w s.v ex []).2 = tr at *
      refine go3 ?_
      exact retC rfl rfl rfl rfl rfl rfl rfl
  · refine WO.callF rfl (.cons (frzI rfl (hardL_mc p s)) (.cons (.plain _ rfl) .nil)) (mvalueT p s pl hB hp m1.2.1 hs.v t1) rfl rfl rfl ?_
    rw [if_pos (by omega)]
    generalize (rk p.w s.v pl []).2 = tr at *
    refine go3 ?_
    exact retC rfl rfl rfl rfl rfl rfl rfl
end Go.Eng.C
