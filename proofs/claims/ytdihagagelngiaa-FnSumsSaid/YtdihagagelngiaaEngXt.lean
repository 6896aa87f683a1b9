/- Contracts of functions, by the engine: drawn surroundings. -/
import Derived.Test.YtdihagagelngiaaEngXa
import Derived.Test.YtdihagagelngiaaEngXo
import Derived.Test.YtdihagagelngiaaEngB4
namespace Go.Eng.C
open Go Go.Eng Go.RowKit Go.Proofs
set_option linter.unusedVariables false
set_option linter.unusedSimpArgs false
set_option maxRecDepth 10000
variable {X : FuncId → List AV → AV → List AV → Prop}
theorem nm_laws_surroundings : (Try.f28.name == "runtime.NumGoroutine") = false := by decide
def surG (bs : List Int) (p : Pr) (res : AV) (fin : List AV) : Prop := ∃ (v : Vs) (i' h' : Int), res = .ag (enR v) ∧ fin = [dice bs i' h', .dead] ∧ DOk bs i' ∧ EOk p v
theorem row_app (l : List Int) (c : Int) : AV.ow 2 1 (l.length + 1) (encL eI l ++ [.sc (.int .i64 c)]) = .ow 2 1 (l ++ [c]).length (encL eI (l ++ [c])) := by
  rw [List.length_append, encL_append]; rfl
theorem rows_app (l : List (List Int)) (c : List Int) : AV.ow 25 1 (l.length + 1) (encL eRow l ++ [.im c.length (encL eI c)]) = .ow 25 1 (l ++ [c]).length (encL eRow (l ++ [c])) := by
  rw [List.length_append, encL_append]; rfl
theorem hard_e0 (l : List Int) (y : AV) : setN [0] (.op [.ow 2 1 l.length (encL eI l), y]) (Eng.hard (.ow 2 1 l.length (encL eI l))) = .op [.im l.length (encL eI l), y] := by
  simp only [setN, kids, List.getElem?_cons_zero, withKids, List.set_cons_zero, Eng.hard, hardL_pl (encL_pl (f := eI) l)]
theorem hard_e1 (x : AV) (rows : List (List Int)) : setN [1] (.op [x, .ow 25 1 rows.length (encL eRow rows)]) (Eng.hard (.ow 25 1 rows.length (encL eRow rows))) = .op [x, .im rows.length (encL eRow rows)] := by
  simp only [setN, kids, List.getElem?_cons_succ, List.getElem?_cons_zero, withKids, List.set_cons_succ, List.set_cons_zero, Eng.hard, hardL_pl (encL_pl (f := eRow) rows)]
theorem hard_row (l : List Int) (z : AV) : setN [] z (Eng.hard (.ow 2 1 l.length (encL eI l))) = .im l.length (encL eI l) := by
  simp only [setN, Eng.hard, hardL_pl (encL_pl (f := eI) l)]
set_option maxHeartbeats 40000000 in
theorem surroundings (bs : List Int) (p : Pr) (i h : Int) (hw : p.w = 2 ∨ p.w = 3) (hB : PB p) (ht0 : 0 ≤ p.temps) (ht1 : p.temps ≤ 6) (ha : p.arrs.length ≤ 2 ∧ ∀ n ∈ p.arrs, 1 ≤ n ∧ n ≤ 6) (hD : DOk bs i) : ∃ res fin, Ev Try.prog X (.fn 28 [dice bs i h, .ag (prR p)] res fin) ∧ surG bs p res fin := by
  have hl1 := hB.l; have hl2 := hB.s; have hl3 := hB.a
  obtain ⟨N, hN⟩ : ∃ N : Nat, varsN p = N := ⟨(varsN p).toNat, by unfold varsN insN; omega⟩
  have hN' : ((p.lows.length : Int) + p.secs.length) + p.temps = N := by rw [← hN]; unfold varsN insN; omega
  have hNb : N ≤ 2097158 := by omega
  have hsz : 0 < sizeW p.w := by rcases hw with h | h <;> rw [h] <;> decide
  have hshl : IntKind.i64.wrap (1 * 2 ^ (min p.w.toNat IntKind.i64.bits)) = sizeW p.w := by rcases hw with h | h <;> rw [h] <;> decide
  refine Ev.fnE (env := [(0, .ad 1000000 [] 0), (1, .ag (prR p)), (1000000, dice bs i h)]) (surG bs p) Try.func28 rfl nm_laws_surroundings rfl rfl (by kernel_rfl) (.cons rfl (.cons rfl (.cons rfl .nil))) ?_
  refine go2 ?_
  refine WO.shl (c := sizeW p.w) rfl rfl rfl (by omega) hshl rfl ?_
  refine go2 ?_
  refine WO.bld (cs := [.nl, .nl]) rfl rfl rfl rfl ?_
  refine go2 ?_
  rw [hN']
  refine WC.castAt (r := 6) (p := [0]) (y := .op [.ow 2 1 0 [], .nl]) 2 1 (by decide) rfl rfl ?_
  refine WC.castAt (r := 6) (p := [1]) (y := .op [.ow 2 1 0 [], .ow 25 1 0 []]) 25 1 (by decide) rfl rfl ?_
  refine WC.loopS (S := Nat × List Int × Int × Int) (fun s => [(0, .ad 1000000 [] 0), (3, .op (prR p)), (4, .op [.nl, .nl]), (5, i64 (sizeW p.w)), (6, .op [.ow 2 1 s.2.1.length (encL eI s.2.1), .ow 25 1 0 []]), (7, i64 s.1), (1000000, dice bs s.2.2.1 s.2.2.2)]) (fun s => s.2.1.length + s.1 = N ∧ (∀ x ∈ s.2.1, 0 ≤ x ∧ x < sizeW p.w) ∧ DOk bs s.2.2.1) (fun s => s.1) (N, [], i, h) (.cons rfl (.cons rfl (.cons rfl (.cons rfl (.cons rfl (.cons rfl (.cons rfl .nil))))))) ⟨by simp, (fun x hx => by simp at hx), hD⟩ ?_
  clear hD
  rintro ⟨k, l, i, h⟩ ⟨g1, g2, hD⟩
  dsimp only at g1 g2 hD ⊢
  refine go2 ?_
  refine WO.cmp rfl rfl rfl rfl rfl (fun h3 => ?_) (fun h3 => ?_)
  · obtain ⟨k, rfl⟩ : ∃ k', k = k' + 1 := ⟨k - 1, by omega⟩
    have e1 : ((k + 1 : Nat) : Int) - 1 = k := by omega
    refine go2 ?_
    refine WC.regionD ⟨[[], [0], [], [], [2, 3], [2, 3, 4], [0, 1, 2, 3, 4, 5], [0, 1, 2, 3, 4, 5, 6], [0, 1, 2, 3, 4, 5, 6, 7]], [0, 2, 3, 7], [(1, [6]), (4, [1000000]), (5, [])], [29, 30, 31, 32, 33, 34, 36], [0, 1, 2, 3, 4, 5, 6, 7, 8], [([31, 32, 33, 34], [31, 32, 33, 1000000, 34], true), ([31, 32, 33, 34], [31, 32, 33, 1000000, 34], true), ([29, 30, 32], [29, 30, 6, 32], true), ([29, 30, 31], [29, 30, 6, 31], true), ([29, 30], [29, 30, 6], true), ([29, 30], [29, 30, 6], true), ([], [], false), ([], [], false), ([], [], false)]⟩ (by kernel_rfl) rfl ?_
    refine go2 ?_
    refine WD.gen [(6, .op [.ow 2 1 l.length (encL eI l), .ow 25 1 0 []]), (30, .vw 6 [0] 0 l.length)] rfl rfl rfl rfl rfl ?_ rfl rfl rfl ⟨rfl, trivial⟩ rfl rfl (.cons _ (.cons _ (.nil _))) ?_
    · refine WO.q rfl (QE.ldOw rfl rfl rfl) rfl rfl ?_
      refine WO.re (r := 6) rfl ?_
      exact WO.nil (WK.mk' (.cons _ (.cons _ (.nil _))))
    refine go2 ?_
    refine WD.dice rfl rfl rfl rfl rfl rfl rfl rfl rfl hD hsz rfl rfl rfl rfl rfl (fun c i h hD c0 c1 => ?_)
    refine WD.gen [(34, .ow 2 1 1 [i64 c])] rfl rfl rfl rfl rfl ?_ rfl rfl rfl ⟨rfl, trivial⟩ rfl rfl (.cons _ (.nil _)) ?_
    · refine WO.bsA (us := [i64 c]) (cs := [i64 c]) rfl rfl rfl rfl rfl (by kernel_rfl) rfl ?_
      exact WO.nil (WK.mk' (.cons _ (.nil _)))
    refine WD.mut rfl rfl rfl ?_
    refine WO.hard (r := 34) (p := []) (x := .ow 2 1 1 [i64 c]) (y := .im 1 [.sc (.int .i64 c)]) rfl rfl rfl ?_
    refine WO.apP (cs' := [.dead, .ow 25 1 0 []]) rfl rfl rfl rfl (encL_length _) rfl rfl rfl (by unfold maxLen; omega) (by omega) rfl rfl rfl ?_
    rw [row_app]
    refine WO.cln 6 ?_
    refine go2 ?_
    refine WO.stOp (cs' := [.ow 2 1 (l ++ [c]).length (encL eI (l ++ [c])), .ow 25 1 0 []]) rfl rfl rfl rfl (encL_length _) rfl rfl rfl rfl rfl ?_
    refine go2 ?_
    rw [e1]
    exact lpK.mk (k, l ++ [c], i, h) (.cons rfl (.cons rfl (.cons rfl (.cons rfl (.cons rfl (.cons rfl (.cons rfl .nil))))))) ⟨by simp; omega, (fun x hx => by
      rcases List.mem_append.1 hx with h | h
      · exact g2 x h
      · simp only [List.mem_singleton] at h; subst h; exact ⟨c0, c1⟩), hD⟩ (by dsimp only; omega)
  · have hk : k = 0 := by omega
    subst hk
    have hvn : (l.length : Int) = varsN p := by rw [hN]; omega
    clear h3
    refine go2 ?_
    refine WC.loopS (S := Nat × List (List Int) × Int × Int) (fun s => [(0, .ad 1000000 [] 0), (3, .op (prR p)), (4, .op [.nl, .nl]), (5, i64 (sizeW p.w)), (6, .op [.ow 2 1 l.length (encL eI l), .ow 25 1 s.2.1.length (encL eRow s.2.1)]), (8, i64 s.1), (1000000, dice bs s.2.2.1 s.2.2.2)]) (fun s => s.1 ≤ p.arrs.length ∧ s.2.1.length = s.1 ∧ (∀ j < s.1, ((s.2.1.getD j []).length : Int) = p.arrs.getD j 0 ∧ ∀ x ∈ s.2.1.getD j [], 0 ≤ x ∧ x < sizeW p.w) ∧ DOk bs s.2.2.1) (fun s => p.arrs.length - s.1) (0, [], i, h) (.cons rfl (.cons rfl (.cons rfl (.cons rfl (.cons rfl (.cons rfl (.cons rfl .nil))))))) ⟨by simp, rfl, (fun j hj => by dsimp only at hj; omega), hD⟩ ?_
    clear hD
    rintro ⟨j, rows, i, h⟩ ⟨q1, q2, q3, hD⟩
    dsimp only at q1 q2 q3 hD ⊢
    refine go2 ?_
    refine WO.cmp rfl rfl rfl rfl rfl (fun h3 => ?_) (fun h3 => ?_)
    · have hj : j < p.arrs.length := by omega
      obtain ⟨n0, n1⟩ := getD_in (q := fun n => 1 ≤ n ∧ n ≤ 6) ha.2 hj
      obtain ⟨M, hM⟩ : ∃ M : Nat, p.arrs.getD j 0 = M := ⟨(p.arrs.getD j 0).toNat, by omega⟩
      refine go2 ?_
      refine WO.ixN (f := eI) 0 rfl rfl rfl hj rfl ?_
      rw [hM]
      refine go2 ?_
      refine WC.loopS (S := Nat × List Int × Int × Int) (fun s => [(0, .ad 1000000 [] 0), (3, .op (prR p)), (4, .op [.nl, .nl]), (5, i64 (sizeW p.w)), (6, .op [.ow 2 1 l.length (encL eI l), .ow 25 1 rows.length (encL eRow rows)]), (8, i64 j), (9, .ow 2 1 s.2.1.length (encL eI s.2.1)), (10, i64 s.1), (1000000, dice bs s.2.2.1 s.2.2.2)]) (fun s => s.2.1.length + s.1 = M ∧ (∀ x ∈ s.2.1, 0 ≤ x ∧ x < sizeW p.w) ∧ DOk bs s.2.2.1) (fun s => s.1) (M, [], i, h) (.cons rfl (.cons rfl (.cons rfl (.cons rfl (.cons rfl (.cons rfl (.cons rfl (.cons rfl (.cons rfl .nil))))))))) ⟨by simp, (fun x hx => by simp at hx), hD⟩ ?_
      clear hD
      rintro ⟨m, r, i, h⟩ ⟨w1, w2, hD⟩
      dsimp only at w1 w2 hD ⊢
      refine go2 ?_
      refine WO.cmp rfl rfl rfl rfl rfl (fun h4 => ?_) (fun h4 => ?_)
      · obtain ⟨m, rfl⟩ : ∃ m', m = m' + 1 := ⟨m - 1, by omega⟩
        have e1 : ((m + 1 : Nat) : Int) - 1 = m := by omega
        refine go2 ?_
        refine WO.dice rfl rfl rfl rfl hD hsz rfl rfl (fun c i h hD c0 c1 => ?_)
        refine WO.bsA (us := [i64 c]) (cs := [i64 c]) rfl rfl rfl rfl rfl (by kernel_rfl) rfl ?_
        refine WO.hard (r := 58) (p := []) (x := .ow 2 1 1 [i64 c]) (y := .im 1 [.sc (.int .i64 c)]) rfl rfl rfl ?_
        refine WO.apVI rfl rfl rfl (encL_length _) rfl rfl rfl (by unfold maxLen; omega) (by omega) rfl ?_
        rw [row_app]
        refine WO.cln 9 ?_
        refine go2 ?_
        rw [e1]
        exact lpK.mk (m, r ++ [c], i, h) (.cons rfl (.cons rfl (.cons rfl (.cons rfl (.cons rfl (.cons rfl (.cons rfl (.cons rfl (.cons rfl .nil))))))))) ⟨by simp; omega, (fun x hx => by
          rcases List.mem_append.1 hx with h | h
          · exact w2 x h
          · simp only [List.mem_singleton] at h; subst h; exact ⟨c0, c1⟩), hD⟩ (by dsimp only; omega)
      · have hm : m = 0 := by omega
        subst hm
        clear h4
        have e1 : (j : Int) + 1 = ((j + 1 : Nat) : Int) := by omega
        refine go2 ?_
        refine WO.q rfl (QE.ldOw rfl rfl rfl) rfl rfl ?_
        refine WO.hard (r := 9) (p := []) (x := .ow 2 1 r.length (encL eI r)) (y := .im r.length (encL eI r)) rfl rfl (hard_row r _) ?_
        refine go2 ?_
        refine WO.bsA (us := [.im r.length (encL eI r)]) (cs := [.im r.length (encL eI r)]) rfl rfl rfl rfl rfl (by kernel_rfl) rfl ?_
        refine WO.hard (r := 63) (p := []) (x := .ow 25 1 1 [.im r.length (encL eI r)]) (y := .im 1 [.im r.length (encL eI r)]) rfl rfl (by simp only [setN, Eng.hard, hardL_pl (show [AV.im r.length (encL eI r)].all isPl = true from rfl)]) ?_
        refine WO.apP (cs' := [.ow 2 1 l.length (encL eI l), .dead]) rfl rfl rfl rfl (encL_length _) rfl rfl rfl (by unfold maxLen; omega) (by omega) rfl rfl rfl ?_
        rw [rows_app]
        refine WO.cln 6 ?_
        refine go2 ?_
        refine WO.stOp (cs' := [.ow 2 1 l.length (encL eI l), .ow 25 1 (rows ++ [r]).length (encL eRow (rows ++ [r]))]) rfl rfl rfl rfl (encL_length _) rfl rfl rfl rfl rfl ?_
        refine go2 ?_
        rw [e1]
        have hrl : r.length = M := by omega
        exact lpK.mk (j + 1, rows ++ [r], i, h) (.cons rfl (.cons rfl (.cons rfl (.cons rfl (.cons rfl (.cons rfl (.cons rfl .nil))))))) ⟨hj, by simp [q2], (fun j' hj' => by
          dsimp only at hj'
          by_cases e : j' < j
          · have : (rows ++ [r]).getD j' [] = rows.getD j' [] := by simp [List.getD_eq_getElem?_getD, List.getElem?_append, show j' < rows.length by omega]
            dsimp only; rw [this]; exact q3 j' e
          · have e2 : j' = j := by omega
            subst e2
            have : (rows ++ [r]).getD j' [] = r := by simp [List.getD_eq_getElem?_getD, List.getElem?_append, show ¬ j' < rows.length by omega, q2]
            dsimp only; rw [this]; exact ⟨by omega, w2⟩), hD⟩ (by dsimp only; omega)
    · have hj : j = p.arrs.length := by omega
      subst hj
      refine go2 ?_
      refine WO.hard (r := 6) (p := [0]) (x := .ow 2 1 l.length (encL eI l)) (y := .op [.im l.length (encL eI l), .ow 25 1 rows.length (encL eRow rows)]) rfl rfl (hard_e0 l _) ?_
      refine WO.hard (r := 6) (p := [1]) (x := .ow 25 1 rows.length (encL eRow rows)) (y := .op (enR ⟨l, rows⟩)) rfl rfl (hard_e1 _ rows) ?_
      refine go2 ?_
      exact retGE (G := surG bs p) rfl rfl rfl rfl rfl rfl ⟨⟨l, rows⟩, i, h, rfl, rfl, hD, ⟨hvn, g2, q2, q3⟩⟩
end Go.Eng.C
