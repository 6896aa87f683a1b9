/- Contracts of functions, by the engine: runs, of the reference: a statement, statements from a place up to another one. -/
import Derived.Test.YtbhdobjjhkkpkaaEngRb
import Derived.Test.YtbhdobjjhkkpkaaEngWb
import Derived.Test.YtbhdobjjhkkpkaaEngXh
namespace Go.Eng
open Go Go.RowKit
/-- No results. -/
theorem ret00 {P : Program} {env : Env} {n : Nat} {fin : List AV} {ex : Ex} (hf : fins n (look env) = fin) (hn : fin.all noRf = true) (he : ex = .normal ∨ ex = .ret := by simp) :
    (ex = .normal ∨ ex = .ret) ∧ ∃ az rs σ2, ResL P (look env) [] az ∧ TakeL (look env) az rs σ2 ∧ resOf rs = .tu [] ∧ fins n σ2 = fin ∧ fin.all noRf = true :=
  ⟨he, [], [], look env, .nil, .nil _, rfl, hf, hn⟩
end Go.Eng
namespace Go.Eng.C
open Go Go.Eng Go.RowKit Go.Proofs
set_option linter.unusedVariables false
set_option linter.unusedSimpArgs false
set_option maxRecDepth 10000
variable {X : FuncId → List AV → AV → List AV → Prop}
theorem nm_spec_l6Trap : (Try.f197.name == "runtime.NumGoroutine") = false := by decide
theorem nm_spec_l6Stmt : (Try.f198.name == "runtime.NumGoroutine") = false := by decide
theorem nm_spec_l6Run : (Try.f161.name == "runtime.NumGoroutine") = false := by decide
/-- The cells of a run under way. -/
def l6c (p : Pr) (s : Mc) (e c : Int) (st : Bool) : List AV := [i64 p.w, .im p.lows.length (encL inp p.lows), .im p.secs.length (encL inp p.secs), i64 p.temps, .im p.arrs.length (encL eI p.arrs), .im p.body.length (encL stR p.body), ints s.v.vars, rowsO s.v.cells, ints s.o, i64 e, i64 c, bl st]
def l6q (p : Pr) (q : Rn) : List AV := l6c p q.1 q.2.1 q.2.2 (decide (q.2.1 ≠ 0))
theorem l6q0 (p : Pr) (s : Mc) : l6q p (s, 0, 0) = l6c p s 0 0 false := rfl
theorem l6q1 (p : Pr) (s : Mc) {e : Int} (c : Int) (h : e ≠ 0) : l6q p (s, e, c) = l6c p s e c true := by simp only [l6q, decide_eq_true h]
/-- The values of a run are only read by a call. -/
theorem frzL6 {env : Env} {r n1 n2 : Nat} {p : Pr} {s : Mc} {e c : Int} {st : Bool} {zs ts : List AV} (h : look env r = .op (l6c p s e c st)) (e1 : s.v.vars.length = n1) (e2 : s.v.cells.length = n2) (k : FrzL (look env) zs ts) : FrzL (look env) (.ag [.vw r [6] 0 n1, .vw r [7] 0 n2] :: zs) (.ag (enR s.v) :: ts) := by
  subst e1 e2
  refine .ag (.cons ?_ (.cons ?_ .nil)) k
  · have := Frz.vw (σ := look env) r 0 s.v.vars.length 2 1 s.v.vars.length [6] (encL eI s.v.vars) (by rw [h]; rfl) (by rw [encL_length (f := eI) (sz := 1)]; omega)
    rwa [List.drop_zero, List.take_of_length_le (by rw [encL_length (f := eI) (sz := 1)]; exact Nat.le_refl _), hardL_pl (encL_pl (f := eI) _)] at this
  · have := Frz.vw (σ := look env) r 0 s.v.cells.length 23 1 s.v.cells.length [7] (encL (eO 2 1 eI) s.v.cells) (by rw [h]; rfl) (by rw [rows_len]; omega)
    rwa [List.drop_zero, List.take_of_length_le (by rw [rows_len]; omega), hardL_rows] at this
theorem l5vN (p : Pr) (v : Vs) (e : List Tm) (hB : PB p) (hp : RP p) (he : reckOk p e) (hv : EOk p v) (h0 : (rk p.w v e []).2 = 0) : Ev Try.prog X (.fn 69 [.ag (prR p), .ag (enR v), .im e.length (encL tm e)] (.tu [i64 (rk p.w v e []).1, i64 0]) [.dead, .dead, .dead]) := by
  have c := l5Value (X := X) p v e hp.w1 hp.w8 hB he.1 (hv.fit he)
  rw [rk_rp] at h0 ⊢
  split at h0
  · rename_i h; exact absurd h0 h
  · rename_i h
    rw [if_neg h]
    rw [Decidable.not_not.1 h] at c
    exact c
theorem l5vT (p : Pr) (v : Vs) (e : List Tm) (hB : PB p) (hp : RP p) (he : reckOk p e) (hv : EOk p v) (h0 : (rk p.w v e []).2 ≠ 0) : Ev Try.prog X (.fn 69 [.ag (prR p), .ag (enR v), .im e.length (encL tm e)] (.tu [i64 (rp p.w v e []).1, i64 (rk p.w v e []).2]) [.dead, .dead, .dead]) := by
  have c := l5Value (X := X) p v e hp.w1 hp.w8 hB he.1 (hv.fit he)
  rw [rk_rp] at h0 ⊢
  split at h0
  · rename_i h; rw [if_pos h]; exact c
  · exact absurd rfl h0
theorem l6Trap0 (p : Pr) (s : Mc) (e c : Int) (st : Bool) : Ev Try.prog X (.fn 197 [.op (l6c p s e c st), i64 0] (bl false) [.op (l6c p s e c st), .dead]) := by
  refine Ev.fnW (env := [(0, .ad 1000000 [] 0), (1, i64 0), (1000000, .op (l6c p s e c st))]) Try.func197 rfl nm_spec_l6Trap rfl rfl (by kernel_rfl) (.cons rfl (.cons rfl (.cons rfl .nil))) ?_
  refine go3 ?_
  exact retV rfl rfl rfl rfl
theorem l6Trap1 (p : Pr) (s : Mc) (e c : Int) (st : Bool) (tr : Int) (h : tr ≠ 0) : Ev Try.prog X (.fn 197 [.op (l6c p s e c st), i64 tr] (bl true) [.op (l6c p s 2 tr true), .dead]) := by
  refine Ev.fnW (env := [(0, .ad 1000000 [] 0), (1, i64 tr), (1000000, .op (l6c p s e c st))]) Try.func197 rfl nm_spec_l6Trap rfl rfl (by kernel_rfl) (.cons rfl (.cons rfl (.cons rfl .nil))) ?_
  refine go3 ?_
  refine WO.st (cs' := l6c p s 2 c st) rfl rfl rfl rfl rfl rfl rfl ?_
  refine go3 ?_
  refine WO.st (cs' := l6c p s 2 tr st) rfl rfl rfl rfl rfl rfl rfl ?_
  refine go3 ?_
  refine WO.st (cs' := l6c p s 2 tr true) rfl rfl rfl rfl rfl rfl rfl ?_
  refine go3 ?_
  exact retV rfl rfl rfl rfl
theorem getN_row6 (p : Pr) (s : Mc) (e c : Int) (st : Bool) {N : Nat} (h : N < s.v.cells.length) : getN [7, N] (AV.op (l6c p s e c st)) = some (ints (s.v.cells.getD N [])) := by
  simp only [getN, kids, l6c, rowsO, Option.bind_some, List.getElem?_cons_succ, List.getElem?_cons_zero, rows_at h]
theorem setN_row6 (p : Pr) (s : Mc) (e c : Int) (st : Bool) {N A : Nat} (h : N < s.v.cells.length) (hA : A < (s.v.cells.getD N []).length) {x : Int} : setN [7, N] (AV.op (l6c p s e c st)) (.ow 2 1 (s.v.cells.getD N []).length ((encL eI (s.v.cells.getD N [])).set A (i64 x))) = .op (l6c p ⟨setC s.v N A x, s.o⟩ e c st) := by
  have e1 : AV.ow 2 1 (s.v.cells.getD N []).length ((encL eI (s.v.cells.getD N [])).set A (i64 x)) = ints ((s.v.cells.getD N []).set A x) := by rw [ints_set hA, ints, List.length_set]
  rw [e1]
  simp only [setN, kids, l6c, rowsO, List.getElem?_cons_succ, List.getElem?_cons_zero, rows_at h, withKids, rows_set h, setC, List.set_cons_succ, List.set_cons_zero, List.length_set]
theorem setN_var6 (p : Pr) (s : Mc) (e c : Int) (st : Bool) {N : Nat} (h : N < s.v.vars.length) {x : Int} : setN [6] (AV.op (l6c p s e c st)) (.ow 2 1 s.v.vars.length ((encL eI s.v.vars).set N (i64 x))) = .op (l6c p ⟨setV s.v N x, s.o⟩ e c st) := by
  have e1 : AV.ow 2 1 s.v.vars.length ((encL eI s.v.vars).set N (i64 x)) = ints (s.v.vars.set N x) := by rw [ints_set h, ints, List.length_set]
  rw [e1]; rfl
abbrev envL (s : Mc) : List AV := [.vw 1000000 [6] 0 s.v.vars.length, .vw 1000000 [7] 0 s.v.cells.length]
set_option maxHeartbeats 16000000 in
theorem l6Stmt (p : Pr) (hB : PB p) (hp : RP p) (t : St) (ht : stOk p t) (hop : t.op = 0 ∨ t.op = 1 ∨ t.op = 6 ∨ t.op = 7) (fb fo : Mc → Rn) (ct : Int) (s : Mc) (hs : MOk p s) (hk : s.o.length ≤ 4000) : Ev Try.prog X (.fn 198 [.op (l6c p s 0 0 false), .ag (stR t)] (.tu []) [.op (l6q p (stpN p t fb fo ct s)), .dead]) := by
  refine Ev.fnW (env := [(0, .ad 1000000 [] 0), (1, .ag (stR t)), (1000000, .op (l6c p s 0 0 false))]) Try.func198 rfl nm_spec_l6Stmt rfl rfl (by kernel_rfl) (.cons rfl (.cons rfl (.cons rfl .nil))) ?_
  refine go3 ?_
  unfold stpN
  rcases hop with h | h | h | h
  · have m := (stOk0 h).1 ht
    rw [if_neg (by omega), if_neg (by omega), if_neg (by omega), if_neg (by omega), if_pos h]
    refine go3 ?_
    refine WC.regionDd ⟨[[], [0], [0, 1], [0, 1, 2], [], [4], [4, 5], [4, 5, 6], [], [8], [0, 1, 2, 3, 4, 5, 6, 7, 8, 9], [0, 1, 2, 3, 4, 5, 6, 7, 8, 9, 10], [0, 1, 2, 3, 4, 5, 6, 7, 8, 9, 10, 11], [0, 1, 2, 3, 4, 5, 6, 7, 8, 9, 10, 11], [0, 1, 2, 3, 4, 5, 6, 7, 8, 9, 10, 11, 12], [0, 1, 2, 3, 4, 5, 6, 7, 8, 9, 10, 11, 12, 13, 14]], [0, 1, 2, 3, 4, 5, 6, 7, 8, 9, 11, 12, 13, 14], [], [16, 17, 18, 19, 20, 21, 22, 23, 24, 25, 15, 27, 28, 4], [0, 1, 2, 3, 4, 5, 6, 7, 8, 9, 10, 11, 12, 13, 14, 15], [([20, 21, 22, 23, 24, 25], [20, 21, 22, 23, 24, 25], false), ([20, 21, 22, 23, 24, 25], [20, 21, 22, 23, 24, 25], false), ([20, 21, 22, 23, 24, 25], [20, 21, 22, 23, 24, 25], false), ([20, 21, 22, 23, 24, 25], [20, 21, 22, 23, 24, 25], false), ([16, 17, 18, 19, 24, 25], [16, 17, 18, 19, 24, 25], false), ([16, 17, 18, 19, 24, 25], [16, 17, 18, 19, 24, 25], false), ([16, 17, 18, 19, 24, 25], [16, 17, 18, 19, 24, 25], false), ([16, 17, 18, 19, 24, 25], [16, 17, 18, 19, 24, 25], false), ([16, 17, 18, 19, 20, 21, 22, 23], [16, 17, 18, 19, 20, 21, 22, 23], false), ([16, 17, 18, 19, 20, 21, 22, 23], [16, 17, 18, 19, 20, 21, 22, 23], false), ([], [], false), ([], [], false), ([28], [28], false), ([27, 4], [27, 4], false), ([28], [28], false), ([], [], false)]⟩ (by kernel_rfl) ?_
    refine go3 ?_
    refine WD.q rfl rfl rfl rfl rfl (QE.ldGI (i := 0) (L := prR p) rfl rfl rfl rfl) rfl rfl rfl ?_
    refine go3 ?_
    refine WD.q rfl rfl rfl rfl rfl (QE.ldGI (i := 6) (L := envL s) rfl rfl rfl rfl) rfl rfl rfl ?_
    refine go3 ?_
    by_cases tr : (rk p.w s.v t.ex []).2 = 0
    · refine WO.callF rfl (.ag (FrzL.plains rfl) (frzL6 rfl rfl rfl (.cons (.plain _ rfl) .nil))) (l5vN p s.v t.ex hB hp m.2.1.2.1 hs.v tr) rfl rfl rfl ?_
      rw [if_neg (by omega)]
      generalize (rk p.w s.v t.ex []).1 = x at *
      have hv := hs.v.n
      have hi0 : 0 ≤ insN p := by unfold insN; omega
      obtain ⟨N, hN⟩ : ∃ N : Nat, t.n = N := ⟨t.n.toNat, by omega⟩
      have hNv : N < s.v.vars.length := by omega
      refine go3 ?_
      refine WO.keep (e' := [(0, .ad 1000000 [] 0), (3, .op (stR t)), (4, i64 x), (29, .ad 1000000 [] 0), (30, i64 0), (1000000, .op (l6c p s 0 0 false))]) (.cons rfl (.cons rfl (.cons rfl (.cons rfl (.cons rfl (.cons rfl .nil)))))) ?_
      refine WO.callD (xs := [.tmp 30]) rfl rfl rfl rfl rfl (l6Trap0 p s 0 0 false) rfl rfl rfl rfl ?_
      refine go3 ?_
      refine WC.regionDd ⟨[[], [0], [0, 1], [0, 1, 2], [0, 1, 2, 3], [], [5], [], [0, 1, 2, 3, 4, 5, 6, 7], [0, 1, 2, 3, 4, 5, 6, 7, 8]], [0, 1, 2, 3, 4, 5, 6, 7, 8], [], [33, 34, 35, 36, 37, 38, 39, 40, 41], [0, 1, 2, 3, 4, 5, 6, 7, 8, 9], [([38, 39, 40], [38, 39, 40], false), ([38, 39, 40], [38, 39, 40], false), ([38, 39, 40], [38, 39, 40], false), ([38, 39, 40], [38, 39, 40], false), ([38, 39, 40], [38, 39, 40], false), ([33, 34, 35, 36, 37, 40], [33, 34, 35, 36, 37, 40], false), ([33, 34, 35, 36, 37, 40], [33, 34, 35, 36, 37, 40], false), ([33, 34, 35, 36, 37, 38, 39], [33, 34, 35, 36, 37, 38, 39], false), ([], [], false), ([], [], false)]⟩ (by kernel_rfl) ?_
      refine go3 ?_
      refine WD.q rfl rfl rfl rfl rfl (QE.ldOwP (p := []) (i := 6) rfl rfl rfl) rfl rfl rfl ?_
      refine go3 ?_
      rw [hN]
      refine WD.q rfl rfl rfl rfl rfl (QE.ixP N rfl rfl (by rw [encL_len1]; exact Nat.le_refl _) rfl hNv) rfl rfl rfl ?_
      refine go3 ?_
      refine WO.stP (p := [6]) (i := N) (z := .op (l6c p ⟨setV s.v N x, s.o⟩ 0 0 false)) rfl rfl rfl rfl (by rw [encL_len1]; exact hNv) rfl (setN_var6 p s 0 0 false hNv) rfl ?_
      rw [Int.toNat_natCast, l6q0]
      refine go3 ?_
      exact ret00 rfl rfl
    · refine WO.callF rfl (.ag (FrzL.plains rfl) (frzL6 rfl rfl rfl (.cons (.plain _ rfl) .nil))) (l5vT p s.v t.ex hB hp m.2.1.2.1 hs.v tr) rfl rfl rfl ?_
      rw [if_pos tr, l6q1 p s _ (by omega)]
      generalize (rk p.w s.v t.ex []).2 = tr' at *
      generalize (rp p.w s.v t.ex []).1 = y at *
      refine go3 ?_
      refine WO.keep (e' := [(0, .ad 1000000 [] 0), (3, .op (stR t)), (29, .ad 1000000 [] 0), (30, i64 tr'), (1000000, .op (l6c p s 0 0 false))]) (.cons rfl (.cons rfl (.cons rfl (.cons rfl (.cons rfl .nil))))) ?_
      refine WO.callD (xs := [.tmp 30]) rfl rfl rfl rfl rfl (l6Trap1 p s 0 0 false tr' tr) rfl rfl rfl rfl ?_
      refine go3 ?_
      exact ret00 rfl rfl
  · obtain ⟨m1, m2, m3, m4⟩ := (stOk1 h).1 ht
    obtain ⟨⟨a1, a1'⟩, a2⟩ := rkIn hp.w1 hp.w8 m1.2.1 hs.v
    have hsz := sizeW_bd hp.w8
    obtain ⟨N, hN⟩ : ∃ N : Nat, t.n = N := ⟨t.n.toNat, by omega⟩
    have hNa : N < p.arrs.length := by omega
    obtain ⟨c1, c2⟩ := hs.v.c N hNa
    have hNc : N < s.v.cells.length := by rw [hs.v.m]; exact hNa
    have hm : p.arrs.getD N 0 ∈ p.arrs := by simp [List.getD_eq_getElem?_getD, hNa]
    have hm2 := hp.an _ hm
    rw [if_pos h]
    unfold putN
    refine go3 ?_
    refine WC.regionDd ⟨[[], [0], [0, 1], [0, 1, 2], [], [4], [4, 5], [4, 5, 6], [], [8], [0, 1, 2, 3, 4, 5, 6, 7, 8, 9], [0, 1, 2, 3, 4, 5, 6, 7, 8, 9, 10], [0, 1, 2, 3, 4, 5, 6, 7, 8, 9, 10, 11], [0, 1, 2, 3, 4, 5, 6, 7, 8, 9, 10, 11], [0, 1, 2, 3, 4, 5, 6, 7, 8, 9, 10, 11, 12], [0, 1, 2, 3, 4, 5, 6, 7, 8, 9, 10, 11, 12, 13, 14]], [0, 1, 2, 3, 4, 5, 6, 7, 8, 9, 11, 12, 13, 14], [], [45, 46, 47, 48, 49, 50, 51, 52, 53, 54, 44, 56, 57, 6], [0, 1, 2, 3, 4, 5, 6, 7, 8, 9, 10, 11, 12, 13, 14, 15], [([49, 50, 51, 52, 53, 54], [49, 50, 51, 52, 53, 54], false), ([49, 50, 51, 52, 53, 54], [49, 50, 51, 52, 53, 54], false), ([49, 50, 51, 52, 53, 54], [49, 50, 51, 52, 53, 54], false), ([49, 50, 51, 52, 53, 54], [49, 50, 51, 52, 53, 54], false), ([45, 46, 47, 48, 53, 54], [45, 46, 47, 48, 53, 54], false), ([45, 46, 47, 48, 53, 54], [45, 46, 47, 48, 53, 54], false), ([45, 46, 47, 48, 53, 54], [45, 46, 47, 48, 53, 54], false), ([45, 46, 47, 48, 53, 54], [45, 46, 47, 48, 53, 54], false), ([45, 46, 47, 48, 49, 50, 51, 52], [45, 46, 47, 48, 49, 50, 51, 52], false), ([45, 46, 47, 48, 49, 50, 51, 52], [45, 46, 47, 48, 49, 50, 51, 52], false), ([], [], false), ([], [], false), ([57], [57], false), ([56, 6], [56, 6], false), ([57], [57], false), ([], [], false)]⟩ (by kernel_rfl) ?_
    refine go3 ?_
    refine WD.q rfl rfl rfl rfl rfl (QE.ldGI (i := 0) (L := prR p) rfl rfl rfl rfl) rfl rfl rfl ?_
    refine go3 ?_
    refine WD.q rfl rfl rfl rfl rfl (QE.ldGI (i := 6) (L := envL s) rfl rfl rfl rfl) rfl rfl rfl ?_
    refine go3 ?_
    by_cases t1 : (rk p.w s.v t.pl []).2 = 0
    · refine WO.callF rfl (.ag (FrzL.plains rfl) (frzL6 rfl rfl rfl (.cons (.plain _ rfl) .nil))) (l5vN p s.v t.pl hB hp m1.2.1 hs.v t1) rfl rfl rfl ?_
      rw [if_neg (by omega)]
      generalize (rk p.w s.v t.pl []).1 = at_ at *
      refine go3 ?_
      refine WO.keep (e' := [(0, .ad 1000000 [] 0), (3, .op (stR t)), (6, i64 at_), (58, .ad 1000000 [] 0), (59, i64 0), (1000000, .op (l6c p s 0 0 false))]) (.cons rfl (.cons rfl (.cons rfl (.cons rfl (.cons rfl (.cons rfl .nil)))))) ?_
      refine WO.callD (xs := [.tmp 59]) rfl rfl rfl rfl rfl (l6Trap0 p s 0 0 false) rfl rfl rfl rfl ?_
      refine go3 ?_
      refine WC.regionDd ⟨[[], [0], [0, 1], [0, 1, 2], [], [4], [4, 5], [4, 5, 6], [], [8], [0, 1, 2, 3, 4, 5, 6, 7, 8, 9], [0, 1, 2, 3, 4, 5, 6, 7, 8, 9, 10], [0, 1, 2, 3, 4, 5, 6, 7, 8, 9, 10, 11], [0, 1, 2, 3, 4, 5, 6, 7, 8, 9, 10, 11], [0, 1, 2, 3, 4, 5, 6, 7, 8, 9, 10, 11, 12], [0, 1, 2, 3, 4, 5, 6, 7, 8, 9, 10, 11, 12, 13, 14]], [0, 1, 2, 3, 4, 5, 6, 7, 8, 9, 11, 12, 13, 14], [], [62, 63, 64, 65, 66, 67, 68, 69, 70, 71, 61, 73, 74, 8], [0, 1, 2, 3, 4, 5, 6, 7, 8, 9, 10, 11, 12, 13, 14, 15], [([66, 67, 68, 69, 70, 71], [66, 67, 68, 69, 70, 71], false), ([66, 67, 68, 69, 70, 71], [66, 67, 68, 69, 70, 71], false), ([66, 67, 68, 69, 70, 71], [66, 67, 68, 69, 70, 71], false), ([66, 67, 68, 69, 70, 71], [66, 67, 68, 69, 70, 71], false), ([62, 63, 64, 65, 70, 71], [62, 63, 64, 65, 70, 71], false), ([62, 63, 64, 65, 70, 71], [62, 63, 64, 65, 70, 71], false), ([62, 63, 64, 65, 70, 71], [62, 63, 64, 65, 70, 71], false), ([62, 63, 64, 65, 70, 71], [62, 63, 64, 65, 70, 71], false), ([62, 63, 64, 65, 66, 67, 68, 69], [62, 63, 64, 65, 66, 67, 68, 69], false), ([62, 63, 64, 65, 66, 67, 68, 69], [62, 63, 64, 65, 66, 67, 68, 69], false), ([], [], false), ([], [], false), ([74], [74], false), ([73, 8], [73, 8], false), ([74], [74], false), ([], [], false)]⟩ (by kernel_rfl) ?_
      refine go3 ?_
      refine WD.q rfl rfl rfl rfl rfl (QE.ldGI (i := 0) (L := prR p) rfl rfl rfl rfl) rfl rfl rfl ?_
      refine go3 ?_
      refine WD.q rfl rfl rfl rfl rfl (QE.ldGI (i := 6) (L := envL s) rfl rfl rfl rfl) rfl rfl rfl ?_
      refine go3 ?_
      by_cases t2 : (rk p.w s.v t.ex []).2 = 0
      · refine WO.callF rfl (.ag (FrzL.plains rfl) (frzL6 rfl rfl rfl (.cons (.plain _ rfl) .nil))) (l5vN p s.v t.ex hB hp m2.2.1 hs.v t2) rfl rfl rfl ?_
        rw [if_neg (by omega)]
        generalize (rk p.w s.v t.ex []).1 = x at *
        refine go3 ?_
        refine WO.keep (e' := [(0, .ad 1000000 [] 0), (3, .op (stR t)), (6, i64 at_), (8, i64 x), (75, .ad 1000000 [] 0), (76, i64 0), (1000000, .op (l6c p s 0 0 false))]) (.cons rfl (.cons rfl (.cons rfl (.cons rfl (.cons rfl (.cons rfl (.cons rfl .nil))))))) ?_
        refine WO.callD (xs := [.tmp 76]) rfl rfl rfl rfl rfl (l6Trap0 p s 0 0 false) rfl rfl rfl rfl ?_
        refine go3 ?_
        refine WC.regionDd ⟨[[], [], [1], [1, 2], [1, 2, 3], [1, 2, 3, 4], [], [6], [1, 2, 3, 4, 5, 6, 7], [1, 2, 3, 4, 5, 6, 7, 8], [1, 2, 3, 4, 5, 6, 7, 8, 9], [0, 1, 2, 3, 4, 5, 6, 7, 8, 9, 10]], [0, 1, 2, 3, 4, 5, 6, 7, 8, 9, 10, 11], [], [78, 79, 80, 81, 82, 83, 84, 85, 86, 87, 88, 89], [0, 1, 2, 3, 4, 5, 6, 7, 8, 9, 10, 11], [([79, 80, 81, 82, 83, 84, 85, 86, 87, 88], [79, 80, 81, 82, 83, 84, 85, 86, 87, 88], false), ([78, 84, 85], [78, 84, 85], false), ([78, 84, 85], [78, 84, 85], false), ([78, 84, 85], [78, 84, 85], false), ([78, 84, 85], [78, 84, 85], false), ([78, 84, 85], [78, 84, 85], false), ([78, 79, 80, 81, 82, 83], [78, 79, 80, 81, 82, 83], false), ([78, 79, 80, 81, 82, 83], [78, 79, 80, 81, 82, 83], false), ([78], [78], false), ([78], [78], false), ([78], [78], false), ([], [], false)]⟩ (by kernel_rfl) ?_
        refine go3 ?_
        rw [hN, Int.toNat_natCast]
        refine WD.q rfl rfl rfl rfl rfl (QE.ldOwP (p := []) (i := 7) rfl rfl rfl) rfl rfl rfl ?_
        refine go3 ?_
        rw [hN]
        refine WD.q rfl rfl rfl rfl rfl (QE.ixP N rfl rfl (by rw [rows_len]; exact Nat.le_refl _) rfl hNc) rfl rfl rfl ?_
        refine go3 ?_
        refine WD.q rfl rfl rfl rfl rfl (QE.ldOwP (p := [7]) (i := N) rfl rfl (rows_at hNc)) rfl rfl rfl ?_
        refine go3 ?_
        refine WD.q rfl rfl rfl rfl rfl (QE.lenO rfl (getN_row6 p s 0 0 false hNc)) rfl rfl rfl ?_
        refine go3 ?_
        by_cases t3 : ((s.v.cells.getD N []).length : Int) ≤ at_
        · refine WD.q rfl rfl rfl rfl rfl (QE.cmpT rfl rfl rfl t3) rfl rfl rfl ?_
          rw [if_pos t3, l6q1 p s _ (by omega)]
          refine go3 ?_
          refine WO.keep (e' := [(0, .ad 1000000 [] 0), (90, .ad 1000000 [] 0), (1000000, .op (l6c p s 0 0 false))]) (.cons rfl (.cons rfl (.cons rfl .nil))) ?_
          refine WO.callD (xs := [.const (.int .i64 2)]) rfl rfl rfl rfl rfl (l6Trap1 p s 0 0 false 2 (by omega)) rfl rfl rfl rfl ?_
          refine go3 ?_
          exact ret00 rfl rfl
        · refine WD.q rfl rfl rfl rfl rfl (QE.cmpF rfl rfl rfl t3) rfl rfl rfl ?_
          rw [if_neg t3]
          obtain ⟨A, hA⟩ : ∃ A : Nat, at_ = A := ⟨at_.toNat, by omega⟩
          subst hA
          have hAl : A < (s.v.cells.getD N []).length := by omega
          refine go3 ?_
          refine WC.regionDd ⟨[[], [0], [0, 1], [0, 1, 2], [0, 1, 2, 3], [], [5], [0, 1, 2, 3, 4, 5, 6], [0, 1, 2, 3, 4, 5, 6, 7], [], [], [0, 1, 2, 3, 4, 5, 6, 7, 8, 9, 10], [0, 1, 2, 3, 4, 5, 6, 7, 8, 9, 10, 11]], [0, 1, 2, 3, 4, 5, 6, 7, 8, 9, 10, 11], [], [92, 93, 94, 95, 96, 97, 98, 99, 100, 101, 102, 103], [0, 1, 2, 3, 4, 5, 6, 7, 8, 9, 10, 11, 12], [([97, 98, 101, 102], [97, 98, 101, 102], false), ([97, 98, 101, 102], [97, 98, 101, 102], false), ([97, 98, 101, 102], [97, 98, 101, 102], false), ([97, 98, 101, 102], [97, 98, 101, 102], false), ([97, 98, 101, 102], [97, 98, 101, 102], false), ([92, 93, 94, 95, 96, 101, 102], [92, 93, 94, 95, 96, 101, 102], false), ([92, 93, 94, 95, 96, 101, 102], [92, 93, 94, 95, 96, 101, 102], false), ([101, 102], [101, 102], false), ([101, 102], [101, 102], false), ([92, 93, 94, 95, 96, 97, 98, 99, 100, 102], [92, 93, 94, 95, 96, 97, 98, 99, 100, 102], false), ([92, 93, 94, 95, 96, 97, 98, 99, 100, 101], [92, 93, 94, 95, 96, 97, 98, 99, 100, 101], false), ([], [], false), ([], [], false)]⟩ (by kernel_rfl) ?_
          refine go3 ?_
          refine WD.q rfl rfl rfl rfl rfl (QE.ldOwP (p := []) (i := 7) rfl rfl rfl) rfl rfl rfl ?_
          refine go3 ?_
          rw [hN]
          refine WD.q rfl rfl rfl rfl rfl (QE.ixP N rfl rfl (by rw [rows_len]; exact Nat.le_refl _) rfl hNc) rfl rfl rfl ?_
          refine go3 ?_
          refine WD.q rfl rfl rfl rfl rfl (QE.ldOwP (p := [7]) (i := N) rfl rfl (rows_at hNc)) rfl rfl rfl ?_
          refine go3 ?_
          refine WD.q rfl rfl rfl rfl rfl (QE.ixP A rfl (getN_row6 p s 0 0 false hNc) (by rw [encL_len1]; exact Nat.le_refl _) rfl hAl) rfl rfl rfl ?_
          refine go3 ?_
          refine WO.stP (p := [7, N]) (i := A) (z := .op (l6c p ⟨setC s.v N A x, s.o⟩ 0 0 false)) rfl rfl rfl (getN_row6 p s 0 0 false hNc) (by rw [encL_len1]; exact hAl) rfl (setN_row6 p s 0 0 false hNc hAl) rfl ?_
          rw [Int.toNat_natCast, l6q0]
          refine go3 ?_
          exact ret00 rfl rfl
      · refine WO.callF rfl (.ag (FrzL.plains rfl) (frzL6 rfl rfl rfl (.cons (.plain _ rfl) .nil))) (l5vT p s.v t.ex hB hp m2.2.1 hs.v t2) rfl rfl rfl ?_
        rw [if_pos t2, l6q1 p s _ (by omega)]
        generalize (rk p.w s.v t.ex []).2 = tr' at *
        generalize (rp p.w s.v t.ex []).1 = y at *
        refine go3 ?_
        refine WO.keep (e' := [(0, .ad 1000000 [] 0), (3, .op (stR t)), (6, i64 at_), (75, .ad 1000000 [] 0), (76, i64 tr'), (1000000, .op (l6c p s 0 0 false))]) (.cons rfl (.cons rfl (.cons rfl (.cons rfl (.cons rfl (.cons rfl .nil)))))) ?_
        refine WO.callD (xs := [.tmp 76]) rfl rfl rfl rfl rfl (l6Trap1 p s 0 0 false tr' t2) rfl rfl rfl rfl ?_
        refine go3 ?_
        exact ret00 rfl rfl
    · refine WO.callF rfl (.ag (FrzL.plains rfl) (frzL6 rfl rfl rfl (.cons (.plain _ rfl) .nil))) (l5vT p s.v t.pl hB hp m1.2.1 hs.v t1) rfl rfl rfl ?_
      rw [if_pos t1, l6q1 p s _ (by omega)]
      generalize (rk p.w s.v t.pl []).2 = tr' at *
      generalize (rp p.w s.v t.pl []).1 = y at *
      refine go3 ?_
      refine WO.keep (e' := [(0, .ad 1000000 [] 0), (3, .op (stR t)), (58, .ad 1000000 [] 0), (59, i64 tr'), (1000000, .op (l6c p s 0 0 false))]) (.cons rfl (.cons rfl (.cons rfl (.cons rfl (.cons rfl .nil))))) ?_
      refine WO.callD (xs := [.tmp 59]) rfl rfl rfl rfl rfl (l6Trap1 p s 0 0 false tr' t1) rfl rfl rfl rfl ?_
      refine go3 ?_
      exact ret00 rfl rfl
  · have m := (stOk26 (.inr h)).1 ht
    rw [if_neg (by omega), if_neg (by omega), if_neg (by omega), if_neg (by omega), if_neg (show ¬ t.op = 0 by omega), if_pos h]
    refine go3 ?_
    refine WC.regionDd ⟨[[], [0], [0, 1], [0, 1, 2], [], [4], [4, 5], [4, 5, 6], [], [8], [0, 1, 2, 3, 4, 5, 6, 7, 8, 9], [0, 1, 2, 3, 4, 5, 6, 7, 8, 9, 10], [0, 1, 2, 3, 4, 5, 6, 7, 8, 9, 10, 11], [0, 1, 2, 3, 4, 5, 6, 7, 8, 9, 10, 11], [0, 1, 2, 3, 4, 5, 6, 7, 8, 9, 10, 11, 12], [0, 1, 2, 3, 4, 5, 6, 7, 8, 9, 10, 11, 12, 13, 14]], [0, 1, 2, 3, 4, 5, 6, 7, 8, 9, 11, 12, 13, 14], [], [107, 108, 109, 110, 111, 112, 113, 114, 115, 116, 106, 118, 119, 9], [0, 1, 2, 3, 4, 5, 6, 7, 8, 9, 10, 11, 12, 13, 14, 15], [([111, 112, 113, 114, 115, 116], [111, 112, 113, 114, 115, 116], false), ([111, 112, 113, 114, 115, 116], [111, 112, 113, 114, 115, 116], false), ([111, 112, 113, 114, 115, 116], [111, 112, 113, 114, 115, 116], false), ([111, 112, 113, 114, 115, 116], [111, 112, 113, 114, 115, 116], false), ([107, 108, 109, 110, 115, 116], [107, 108, 109, 110, 115, 116], false), ([107, 108, 109, 110, 115, 116], [107, 108, 109, 110, 115, 116], false), ([107, 108, 109, 110, 115, 116], [107, 108, 109, 110, 115, 116], false), ([107, 108, 109, 110, 115, 116], [107, 108, 109, 110, 115, 116], false), ([107, 108, 109, 110, 111, 112, 113, 114], [107, 108, 109, 110, 111, 112, 113, 114], false), ([107, 108, 109, 110, 111, 112, 113, 114], [107, 108, 109, 110, 111, 112, 113, 114], false), ([], [], false), ([], [], false), ([119], [119], false), ([118, 9], [118, 9], false), ([119], [119], false), ([], [], false)]⟩ (by kernel_rfl) ?_
    refine go3 ?_
    refine WD.q rfl rfl rfl rfl rfl (QE.ldGI (i := 0) (L := prR p) rfl rfl rfl rfl) rfl rfl rfl ?_
    refine go3 ?_
    refine WD.q rfl rfl rfl rfl rfl (QE.ldGI (i := 6) (L := envL s) rfl rfl rfl rfl) rfl rfl rfl ?_
    refine go3 ?_
    by_cases tr : (rk p.w s.v t.ex []).2 = 0
    · refine WO.callF rfl (.ag (FrzL.plains rfl) (frzL6 rfl rfl rfl (.cons (.plain _ rfl) .nil))) (l5vN p s.v t.ex hB hp m.2.1.2.1 hs.v tr) rfl rfl rfl ?_
      rw [if_neg (by omega)]
      generalize (rk p.w s.v t.ex []).1 = x at *
      refine go3 ?_
      refine WO.keep (e' := [(0, .ad 1000000 [] 0), (3, .op (stR t)), (9, i64 x), (120, .ad 1000000 [] 0), (121, i64 0), (1000000, .op (l6c p s 0 0 false))]) (.cons rfl (.cons rfl (.cons rfl (.cons rfl (.cons rfl (.cons rfl .nil)))))) ?_
      refine WO.callD (xs := [.tmp 121]) rfl rfl rfl rfl rfl (l6Trap0 p s 0 0 false) rfl rfl rfl rfl ?_
      refine go3 ?_
      refine WO.q rfl (QE.ldOwP (p := []) (i := 8) rfl rfl rfl) rfl rfl ?_
      refine go3 ?_
      refine WO.bsA (us := [i64 x]) (cs := [i64 x]) rfl rfl rfl rfl rfl (by kernel_rfl) rfl ?_
      refine WO.hard (r := 131) (p := []) (x := .ow 2 1 1 [i64 x]) (y := .im 1 [i64 x]) rfl rfl rfl ?_
      refine WO.apP (r := 1000000) (j := 8) (cs' := (l6c p s 0 0 false).set 8 .dead) rfl rfl rfl rfl (encL_length _) rfl rfl rfl (by unfold maxLen; omega) (by omega) rfl rfl rfl ?_
      rw [num_app]
      refine WO.keep (e' := [(124, .ad 1000000 [] 0), (132, ints (s.o ++ [x])), (1000000, .op ((l6c p s 0 0 false).set 8 .dead))]) (.cons rfl (.cons rfl (.cons rfl .nil))) ?_
      refine go3 ?_
      refine WO.stOp (a := 8) (cs' := l6c p ⟨s.v, s.o ++ [x]⟩ 0 0 false) rfl rfl rfl rfl (encL_length _) rfl rfl rfl rfl rfl ?_
      rw [l6q0]
      refine go3 ?_
      exact ret00 rfl rfl
    · refine WO.callF rfl (.ag (FrzL.plains rfl) (frzL6 rfl rfl rfl (.cons (.plain _ rfl) .nil))) (l5vT p s.v t.ex hB hp m.2.1.2.1 hs.v tr) rfl rfl rfl ?_
      rw [if_pos tr, l6q1 p s _ (by omega)]
      generalize (rk p.w s.v t.ex []).2 = tr' at *
      generalize (rp p.w s.v t.ex []).1 = y at *
      refine go3 ?_
      refine WO.keep (e' := [(0, .ad 1000000 [] 0), (3, .op (stR t)), (120, .ad 1000000 [] 0), (121, i64 tr'), (1000000, .op (l6c p s 0 0 false))]) (.cons rfl (.cons rfl (.cons rfl (.cons rfl (.cons rfl .nil))))) ?_
      refine WO.callD (xs := [.tmp 121]) rfl rfl rfl rfl rfl (l6Trap1 p s 0 0 false tr' tr) rfl rfl rfl rfl ?_
      refine go3 ?_
      exact ret00 rfl rfl
  · rw [if_neg (by omega), if_pos h, l6q1 p s _ (by omega)]
    refine go3 ?_
    refine WO.st (cs' := l6c p s 1 0 false) rfl rfl rfl rfl rfl rfl rfl ?_
    refine go3 ?_
    refine WO.st (cs' := l6c p s 1 t.n false) rfl rfl rfl rfl rfl rfl rfl ?_
    refine go3 ?_
    refine WO.st (cs' := l6c p s 1 t.n true) rfl rfl rfl rfl rfl rfl rfl ?_
    refine go3 ?_
    exact ret00 rfl rfl
end Go.Eng.C
