/- Contracts of functions, by the engine: the program's nodes. -/
import Derived.Test.YtbhdobjjhkkpkaaEngXh
namespace Go.Eng.C
open Go Go.Eng Go.RowKit Go.Proofs
set_option linter.unusedVariables false
set_option linter.unusedSimpArgs false
set_option maxRecDepth 10000
variable {X : FuncId → List AV → AV → List AV → Prop}
theorem nm_impl_nester_is : (Try.f193.name == "runtime.NumGoroutine") = false := by decide
theorem nm_impl_nester_many : (Try.f156.name == "runtime.NumGoroutine") = false := by decide
theorem nm_impl_nester_one : (Try.f194.name == "runtime.NumGoroutine") = false := by decide
theorem nm_impl_nodesOf : (Try.f85.name == "runtime.NumGoroutine") = false := by decide
theorem nm_impl_stepsIn : (Try.f109.name == "runtime.NumGoroutine") = false := by decide

/-- Nodes as cells, only read. -/
def encN : Ns → List AV
  | .nil => []
  | .cons a b o r => i64 a :: .im b.toL.length (encN b) :: .im o.toL.length (encN o) :: encN r
def ndc (n : Nat × Ns × Ns) : List AV := [i64 n.1, .im n.2.1.toL.length (encN n.2.1), .im n.2.2.toL.length (encN n.2.2)]
instance : Wid ndc 3 := ⟨fun _ => rfl⟩
instance : Pl ndc := ⟨fun _ => rfl⟩
theorem encN_eq : ∀ (r : Ns), encN r = encL ndc r.toL
  | .nil => rfl
  | .cons a b o r => by simp only [encN, Ns.toL, encL_cons, ndc, encN_eq r, List.cons_append, List.nil_append]
/-- The nester's cells. -/
abbrev nsc (x : List St) (a m e : Int) : List AV := [.im x.length (encL stR x), i64 a, i64 m, i64 e]
theorem nstIs (x : List St) (hx : x.length ≤ 1000) (a : Nat) (m e k : Int) {r : Bool} (hr : r = true ↔ isA x a k) : Ev Try.prog X (.fn 193 [.ip (nsc x a m e), i64 k] (bl r) [.dead, .dead]) := by
  have hop : opA x a = (x.getD a zst).op := rfl
  unfold isA at hr
  rw [hop] at hr
  refine Ev.fnW (env := [(0, .ip (nsc x a m e)), (1, i64 k)]) Try.func193 rfl nm_impl_nester_is rfl rfl (by kernel_rfl) (.cons rfl (.cons rfl .nil)) ?_
  refine go2 ?_
  refine WC.regionD ⟨[[], [0], [0, 1], [0, 1, 2], [], [4], [4, 5], [4, 5, 6], [4, 5, 6, 7], [0, 1, 2, 3, 4, 5, 6, 7, 8], [0, 1, 2, 3, 4, 5, 6, 7, 8, 9], [0, 1, 2, 3, 4, 5, 6, 7, 8, 9, 10], [0, 1, 2, 3, 4, 5, 6, 7, 8, 9, 10, 11], [0, 1, 2, 3, 4, 5, 6, 7, 8, 9, 10, 11, 12], [0, 1, 2, 3, 4, 5, 6, 7, 8, 9, 10, 11, 12, 13], [0, 1, 2, 3, 4, 5, 6, 7, 8, 9, 10], [0, 1, 2, 3, 4, 5, 6, 7, 8, 9, 10, 15], [0, 1, 2, 3, 4, 5, 6, 7, 8, 9, 10, 15, 16], [0, 1, 2, 3, 4, 5, 6, 7, 8, 9, 10, 15, 16, 17], [0, 1, 2, 3, 4, 5, 6, 7, 8, 9, 10, 11, 12, 13, 14, 15, 16, 17, 18], [0, 1, 2, 3, 4, 5, 6, 7, 8, 9, 10, 11, 12, 13, 14, 15, 16, 17, 18, 19], [0, 1, 2, 3, 4, 5, 6, 7, 8, 9, 10, 11, 12, 13, 14, 15, 16, 17, 18, 19, 20], [0, 1, 2, 3, 4, 5, 6, 7, 8, 9, 10], [0, 1, 2, 3, 4, 5, 6, 7, 8, 9, 10, 11, 12, 13, 14, 15, 16, 17, 18, 19, 20, 21, 22], [0, 1, 2, 3, 4, 5, 6, 7, 8, 9, 10, 11, 12, 13, 14, 15, 16, 17, 18, 19, 20, 21, 22, 23], [0, 1, 2, 3, 4, 5, 6, 7, 8, 9, 10, 11, 12, 13, 14, 15, 16, 17, 18, 19, 20, 21, 22, 23, 24]], [0, 1, 2, 3, 4, 5, 6, 7, 8, 9, 10, 11, 12, 13, 14, 15, 16, 17, 18, 19, 20, 21, 22, 23, 24], [], [5, 6, 7, 8, 9, 10, 11, 12, 13, 14, 15, 16, 17, 18, 19, 20, 21, 22, 23, 24, 25, 26, 27, 28, 29], [0, 1, 2, 3, 4, 5, 6, 7, 8, 9, 10, 11, 12, 13, 14, 15, 16, 17, 18, 19, 20, 21, 22, 23, 24, 25], [([9, 10, 11, 12, 13], [9, 10, 11, 12, 13], false), ([9, 10, 11, 12, 13], [9, 10, 11, 12, 13], false), ([9, 10, 11, 12, 13], [9, 10, 11, 12, 13], false), ([9, 10, 11, 12, 13], [9, 10, 11, 12, 13], false), ([5, 6, 7, 8], [5, 6, 7, 8], false), ([5, 6, 7, 8], [5, 6, 7, 8], false), ([5, 6, 7, 8], [5, 6, 7, 8], false), ([5, 6, 7, 8], [5, 6, 7, 8], false), ([5, 6, 7, 8], [5, 6, 7, 8], false), ([], [], false), ([], [], false), ([20, 21, 22, 23, 27], [20, 21, 22, 23, 27], false), ([20, 21, 22, 23, 27], [20, 21, 22, 23, 27], false), ([20, 21, 22, 23, 27], [20, 21, 22, 23, 27], false), ([20, 21, 22, 23, 27], [20, 21, 22, 23, 27], false), ([16, 17, 18, 19, 27], [16, 17, 18, 19, 27], false), ([16, 17, 18, 19, 27], [16, 17, 18, 19, 27], false), ([16, 17, 18, 19, 27], [16, 17, 18, 19, 27], false), ([16, 17, 18, 19, 27], [16, 17, 18, 19, 27], false), ([27], [27], false), ([27], [27], false), ([27], [27], false), ([16, 17, 18, 19, 20, 21, 22, 23, 24, 25, 26], [16, 17, 18, 19, 20, 21, 22, 23, 24, 25, 26], false), ([], [], false), ([], [], false), ([], [], false)]⟩ (by kernel_rfl) rfl ?_
  refine go2 ?_
  refine WD.cmp rfl rfl rfl rfl rfl rfl rfl rfl rfl rfl (fun h => ?_) (fun h => ?_)
  · have ha : a < x.length := by omega
    refine go2 ?_
    refine WD.q rfl rfl rfl rfl rfl (QE.ixN (f := stR) zst rfl rfl ha) rfl rfl rfl ?_
    refine go2 ?_
    refine WD.cmp rfl rfl rfl rfl rfl rfl rfl rfl rfl rfl (fun h2 => ?_) (fun h2 => ?_)
    · refine go2 ?_
      exact retV rfl (bool_eq hr (by simp only [true_iff]; exact ⟨ha, h2⟩)) rfl rfl
    · refine go2 ?_
      exact retV rfl (bool_eq hr (by simp only [Bool.false_eq_true, false_iff]; exact fun h => h2 h.2)) rfl rfl
  · refine go2 ?_
    exact retV rfl (bool_eq hr (by simp only [Bool.false_eq_true, false_iff]; omega)) rfl rfl
/-- What the nester gives for a block, for a node. -/
def manyG (x : List St) (a : Nat) (res : AV) (fin : List AV) : Prop := match B x a with
  | none => ∃ a' m' e' : Int, res = .tu [.nl, .sc (.bool false)] ∧ fin = [.op (nsc x a' m' e')]
  | some (s, r) => ∃ m' e' : Int, res = .tu [.ow 185 3 r.toL.length (encL ndc r.toL), .sc (.bool true)] ∧ fin = [.op (nsc x s m' e')]
def oneG (x : List St) (a : Nat) (m e : Int) (res : AV) (fin : List AV) : Prop :=
  if nestA x a then match E x a with
    | none => ∃ (a' m' e' : Int), res = .tu [.ag [i64 0, .nl, .nl], .sc (.bool false)] ∧ fin = [.op (nsc x a' m' e')]
    | some (d, c, b, o) => res = .tu [.ag (ndc (a, b, o)), .sc (.bool true)] ∧ fin = [.op (nsc x ((c : Int) + 1) d c)]
  else res = .tu [.ag (ndc (a, .nil, .nil)), .sc (.bool true)] ∧ fin = [.op (nsc x ((a : Int) + 1) m e)]
theorem hard_tu {n : Nat} {cs : List AV} {b : Bool} (h : cs.all isPl = true) : setN [0] (.tu [.ow 185 3 n cs, .sc (.bool b)]) (Eng.hard (.ow 185 3 n cs)) = .tu [.im n cs, .sc (.bool b)] := by
  simp only [setN, kids, List.getElem?_cons_zero, withKids, List.set_cons_zero, Eng.hard, hardL_pl h]
theorem cast_tu {b : Bool} : setN [0] (.tu [.nl, .sc (.bool b)]) (.im 0 []) = .tu [.im 0 [], .sc (.bool b)] := rfl
set_option maxHeartbeats 20000000 in
theorem one_of (x : List St) (hx : x.length ≤ 1000) (a : Nat) (ha : a < x.length) (m e : Int) (ih : ∀ c, a < c → c ≤ x.length + 1 → ∀ m e, ∃ res fin, Ev Try.prog X (.fn 156 [.op (nsc x c m e)] res fin) ∧ manyG x c res fin) : ∃ res fin, Ev Try.prog X (.fn 194 [.op (nsc x a m e)] res fin) ∧ oneG x a m e res fin := by
  have hop : opA x a = (x.getD a zst).op := rfl
  have e1 : (a : Int) + 1 = ((a + 1 : Nat) : Int) := by omega
  refine Ev.fnE (env := [(0, .ad 1000000 [] 0), (1000000, .op (nsc x a m e))]) (oneG x a m e) Try.func194 rfl nm_impl_nester_one rfl rfl (by kernel_rfl) (.cons rfl (.cons rfl .nil)) ?_
  refine go2 ?_
  refine WO.bld (cs := [i64 a, .nl, .nl]) rfl rfl rfl rfl ?_
  refine WO.castI (r := 13) (p := [1]) (y := .ag [i64 a, .im 0 [], .nl]) rfl rfl ?_
  refine WO.castI (r := 13) (p := [2]) (y := .ag [i64 a, .im 0 [], .im 0 []]) rfl rfl ?_
  refine WO.alloc rfl rfl ?_
  refine WO.stA rfl rfl rfl rfl rfl rfl rfl rfl rfl ?_
  refine go2 ?_
  refine WC.regionD ⟨[[], [0], [0, 1], [0, 1, 2], [], [4], [4, 5], [4, 5, 6], [0, 1, 2, 3, 4, 5, 6, 7], [0, 1, 2, 3, 4, 5, 6, 7, 8], [0, 1, 2, 3, 4, 5, 6, 7, 8, 9], [0, 1, 2, 3, 4, 5, 6, 7, 8, 9, 10]], [0, 1, 2, 3, 4, 5, 6, 7, 8, 9, 10], [], [14, 15, 16, 17, 18, 19, 20, 21, 22, 23, 24], [0, 1, 2, 3, 4, 5, 6, 7, 8, 9, 10, 11], [([18, 19, 20, 21], [18, 19, 20, 21], false), ([18, 19, 20, 21], [18, 19, 20, 21], false), ([18, 19, 20, 21], [18, 19, 20, 21], false), ([18, 19, 20, 21], [18, 19, 20, 21], false), ([14, 15, 16, 17], [14, 15, 16, 17], false), ([14, 15, 16, 17], [14, 15, 16, 17], false), ([14, 15, 16, 17], [14, 15, 16, 17], false), ([14, 15, 16, 17], [14, 15, 16, 17], false), ([], [], false), ([], [], false), ([], [], false), ([], [], false)]⟩ (by kernel_rfl) rfl ?_
  refine go2 ?_
  refine WD.q rfl rfl rfl rfl rfl (QE.ixN (f := stR) zst rfl rfl ha) rfl rfl rfl ?_
  refine go2 ?_
  refine WO.st (cs' := nsc x ((a : Int) + 1) m e) rfl rfl rfl rfl rfl rfl rfl ?_
  by_cases hn : nestA x a
  · have hn' := hn
    unfold nestA at hn'
    rcases hn' with h' | h' | h'
    · have h := h'
      rw [hop] at h
      refine go2 ?_
      obtain ⟨res, fin, hM, hG⟩ := ih (a + 1) (by omega) (by omega) m e
      rw [← e1] at hM
      unfold manyG at hG
      cases hB : B x (a + 1) with
      | none =>
        rw [hB] at hG
        obtain ⟨a', m', e', rfl, rfl⟩ := hG
        refine WO.callD rfl rfl rfl rfl rfl hM rfl rfl rfl rfl ?_
        refine WO.castI (r := 45) (p := [0]) (y := .tu [.im 0 [], .sc (.bool false)]) rfl rfl ?_
        refine go2 ?_
        refine WO.stI (cs' := [i64 a, .im 0 [], .im 0 []]) rfl rfl rfl rfl rfl rfl rfl ?_
        refine go2 ?_
        refine WO.bld (cs := [i64 0, .nl, .nl]) rfl rfl rfl rfl ?_
        refine go2 ?_
        exact retCVE (G := oneG x a m e) rfl rfl rfl rfl rfl rfl rfl (by unfold oneG; rw [if_pos hn, show E x a = none by simp [E, nd, hn, hB]]; exact ⟨_, _, _, rfl, rfl⟩)
      | some cb =>
        obtain ⟨c, b⟩ := cb
        have hlc := B_le hB
        have hcl := B_lt hB (by omega)
        have e2 : (c : Int) + 1 = ((c + 1 : Nat) : Int) := by omega
        rw [hB] at hG
        obtain ⟨m', e', rfl, rfl⟩ := hG
        refine WO.callD rfl rfl rfl rfl rfl hM rfl rfl rfl rfl ?_
        refine WO.hard (r := 45) (p := [0]) (x := .ow 185 3 b.toL.length (encL ndc b.toL)) (y := .tu [.im b.toL.length (encL ndc b.toL), .sc (.bool true)]) rfl rfl (hard_tu (encL_pl _)) ?_
        refine go2 ?_
        refine WO.stI (cs' := [i64 a, .im b.toL.length (encL ndc b.toL), .im 0 []]) rfl rfl rfl rfl rfl rfl rfl ?_
        refine go2 ?_
        refine WO.callFB rfl (.cons (frzA rfl rfl) (.cons (.plain _ rfl) .nil)) (nstIs x hx c _ _ 3) rfl (fun h3 => ?_) (fun h3 => ?_)
        · have h34 : ¬ isA x c 4 := fun h4 => by have := h4.2; have := h3.2; omega
          refine go2 ?_
          refine WO.st (cs' := nsc x ((c : Int) + 1) m' e') rfl rfl rfl rfl rfl rfl rfl ?_
          refine go2 ?_
          obtain ⟨res, fin, hM2, hG2⟩ := ih (c + 1) (by omega) (by omega) m' e'
          rw [← e2] at hM2
          unfold manyG at hG2
          cases hB2 : B x (c + 1) with
          | none =>
            rw [hB2] at hG2
            obtain ⟨a', m', e', rfl, rfl⟩ := hG2
            refine WO.callD rfl rfl rfl rfl rfl hM2 rfl rfl rfl rfl ?_
            refine WO.castI (r := 80) (p := [0]) (y := .tu [.im 0 [], .sc (.bool false)]) rfl rfl ?_
            refine go2 ?_
            refine WO.stI (cs' := [i64 a, .im b.toL.length (encL ndc b.toL), .im 0 []]) rfl rfl rfl rfl rfl rfl rfl ?_
            refine go2 ?_
            refine WO.bld (cs := [i64 0, .nl, .nl]) rfl rfl rfl rfl ?_
            refine go2 ?_
            exact retCVE (G := oneG x a m e) rfl rfl rfl rfl rfl rfl rfl (by unfold oneG; rw [if_pos hn, show E x a = none by simp [E, nd, hn, hB, h', h3, h34, hB2]]; exact ⟨_, _, _, rfl, rfl⟩)
          | some eo =>
            rw [hB2] at hG2
            obtain ⟨d, o⟩ := eo
            have hdl := B_lt hB2 (by have := h3.1; omega)
            obtain ⟨m', e', rfl, rfl⟩ := hG2
            refine WO.callD rfl rfl rfl rfl rfl hM2 rfl rfl rfl rfl ?_
            refine WO.hard (r := 80) (p := [0]) (x := .ow 185 3 o.toL.length (encL ndc o.toL)) (y := .tu [.im o.toL.length (encL ndc o.toL), .sc (.bool true)]) rfl rfl (hard_tu (encL_pl _)) ?_
            refine go2 ?_
            refine WO.stI (cs' := [i64 a, .im b.toL.length (encL ndc b.toL), .im o.toL.length (encL ndc o.toL)]) rfl rfl rfl rfl rfl rfl rfl ?_
            refine go2 ?_
            refine WO.callFB rfl (.cons (frzA rfl rfl) (.cons (.plain _ rfl) .nil)) (nstIs x hx d _ _ 4) rfl (fun h5 => ?_) (fun h5 => ?_)
            · refine go2 ?_
              refine WO.st (cs' := nsc x d c e') rfl rfl rfl rfl rfl rfl rfl ?_
              refine go2 ?_
              refine WO.st (cs' := nsc x d c d) rfl rfl rfl rfl rfl rfl rfl ?_
              refine go2 ?_
              refine WO.st (cs' := nsc x ((d : Int) + 1) c d) rfl rfl rfl rfl rfl rfl rfl ?_
              refine go2 ?_
              exact retCVE (G := oneG x a m e) rfl rfl rfl rfl rfl rfl rfl (by unfold oneG; rw [if_pos hn, show E x a = some ((c : Int), d, b, o) by simp [E, nd, hn, hB, h', h3, h34, hB2, h5]]; simp only [ndc, encN_eq]; first | exact ⟨rfl, rfl⟩ | exact ⟨trivial, rfl⟩)
            · refine go2 ?_
              refine WO.bld (cs := [i64 0, .nl, .nl]) rfl rfl rfl rfl ?_
              refine go2 ?_
              exact retCVE (G := oneG x a m e) rfl rfl rfl rfl rfl rfl rfl (by unfold oneG; rw [if_pos hn, show E x a = none by simp [E, nd, hn, hB, h', h3, h34, hB2, h5]]; exact ⟨_, _, _, rfl, rfl⟩)
        · refine go2 ?_
          refine WO.callFB rfl (.cons (frzA rfl rfl) (.cons (.plain _ rfl) .nil)) (nstIs x hx c _ _ 4) rfl (fun h4 => ?_) (fun h4 => ?_)
          · refine go2 ?_
            refine WO.st (cs' := nsc x c (-1) e') rfl rfl rfl rfl rfl rfl rfl ?_
            refine go2 ?_
            refine WO.st (cs' := nsc x c (-1) c) rfl rfl rfl rfl rfl rfl rfl ?_
            refine go2 ?_
            refine WO.st (cs' := nsc x ((c : Int) + 1) (-1) c) rfl rfl rfl rfl rfl rfl rfl ?_
            refine go2 ?_
            exact retCVE (G := oneG x a m e) rfl rfl rfl rfl rfl rfl rfl (by unfold oneG; rw [if_pos hn, show E x a = some ((-1), c, b, .nil) by simp [E, nd, hn, hB, h', h4]]; simp only [ndc, encN_eq]; first | exact ⟨rfl, rfl⟩ | exact ⟨trivial, rfl⟩)
          · refine go2 ?_
            refine WO.bld (cs := [i64 0, .nl, .nl]) rfl rfl rfl rfl ?_
            refine go2 ?_
            exact retCVE (G := oneG x a m e) rfl rfl rfl rfl rfl rfl rfl (by unfold oneG; rw [if_pos hn, show E x a = none by simp [E, nd, hn, hB, h', h4, h3]]; exact ⟨_, _, _, rfl, rfl⟩)
    · have h := h'
      rw [hop] at h
      refine go2 ?_
      obtain ⟨res, fin, hM, hG⟩ := ih (a + 1) (by omega) (by omega) m e
      rw [← e1] at hM
      unfold manyG at hG
      cases hB : B x (a + 1) with
      | none =>
        rw [hB] at hG
        obtain ⟨a', m', e', rfl, rfl⟩ := hG
        refine WO.callD rfl rfl rfl rfl rfl hM rfl rfl rfl rfl ?_
        refine WO.castI (r := 45) (p := [0]) (y := .tu [.im 0 [], .sc (.bool false)]) rfl rfl ?_
        refine go2 ?_
        refine WO.stI (cs' := [i64 a, .im 0 [], .im 0 []]) rfl rfl rfl rfl rfl rfl rfl ?_
        refine go2 ?_
        refine WO.bld (cs := [i64 0, .nl, .nl]) rfl rfl rfl rfl ?_
        refine go2 ?_
        exact retCVE (G := oneG x a m e) rfl rfl rfl rfl rfl rfl rfl (by unfold oneG; rw [if_pos hn, show E x a = none by simp [E, nd, hn, hB]]; exact ⟨_, _, _, rfl, rfl⟩)
      | some cb =>
        obtain ⟨c, b⟩ := cb
        have hlc := B_le hB
        have hcl := B_lt hB (by omega)
        have e2 : (c : Int) + 1 = ((c + 1 : Nat) : Int) := by omega
        rw [hB] at hG
        obtain ⟨m', e', rfl, rfl⟩ := hG
        refine WO.callD rfl rfl rfl rfl rfl hM rfl rfl rfl rfl ?_
        refine WO.hard (r := 45) (p := [0]) (x := .ow 185 3 b.toL.length (encL ndc b.toL)) (y := .tu [.im b.toL.length (encL ndc b.toL), .sc (.bool true)]) rfl rfl (hard_tu (encL_pl _)) ?_
        refine go2 ?_
        refine WO.stI (cs' := [i64 a, .im b.toL.length (encL ndc b.toL), .im 0 []]) rfl rfl rfl rfl rfl rfl rfl ?_
        refine go2 ?_
        refine WO.callFB rfl (.cons (frzA rfl rfl) (.cons (.plain _ rfl) .nil)) (nstIs x hx c _ _ 4) rfl (fun h4 => ?_) (fun h4 => ?_)
        · refine go2 ?_
          refine WO.st (cs' := nsc x c (-1) e') rfl rfl rfl rfl rfl rfl rfl ?_
          refine go2 ?_
          refine WO.st (cs' := nsc x c (-1) c) rfl rfl rfl rfl rfl rfl rfl ?_
          refine go2 ?_
          refine WO.st (cs' := nsc x ((c : Int) + 1) (-1) c) rfl rfl rfl rfl rfl rfl rfl ?_
          refine go2 ?_
          exact retCVE (G := oneG x a m e) rfl rfl rfl rfl rfl rfl rfl (by unfold oneG; rw [if_pos hn, show E x a = some ((-1), c, b, .nil) by simp [E, nd, hn, hB, h', h4]]; simp only [ndc, encN_eq]; first | exact ⟨rfl, rfl⟩ | exact ⟨trivial, rfl⟩)
        · refine go2 ?_
          refine WO.bld (cs := [i64 0, .nl, .nl]) rfl rfl rfl rfl ?_
          refine go2 ?_
          exact retCVE (G := oneG x a m e) rfl rfl rfl rfl rfl rfl rfl (by unfold oneG; rw [if_pos hn, show E x a = none by simp [E, nd, hn, hB, h', h4]]; exact ⟨_, _, _, rfl, rfl⟩)
    · have h := h'
      rw [hop] at h
      refine go2 ?_
      obtain ⟨res, fin, hM, hG⟩ := ih (a + 1) (by omega) (by omega) m e
      rw [← e1] at hM
      unfold manyG at hG
      cases hB : B x (a + 1) with
      | none =>
        rw [hB] at hG
        obtain ⟨a', m', e', rfl, rfl⟩ := hG
        refine WO.callD rfl rfl rfl rfl rfl hM rfl rfl rfl rfl ?_
        refine WO.castI (r := 45) (p := [0]) (y := .tu [.im 0 [], .sc (.bool false)]) rfl rfl ?_
        refine go2 ?_
        refine WO.stI (cs' := [i64 a, .im 0 [], .im 0 []]) rfl rfl rfl rfl rfl rfl rfl ?_
        refine go2 ?_
        refine WO.bld (cs := [i64 0, .nl, .nl]) rfl rfl rfl rfl ?_
        refine go2 ?_
        exact retCVE (G := oneG x a m e) rfl rfl rfl rfl rfl rfl rfl (by unfold oneG; rw [if_pos hn, show E x a = none by simp [E, nd, hn, hB]]; exact ⟨_, _, _, rfl, rfl⟩)
      | some cb =>
        obtain ⟨c, b⟩ := cb
        have hlc := B_le hB
        have hcl := B_lt hB (by omega)
        have e2 : (c : Int) + 1 = ((c + 1 : Nat) : Int) := by omega
        rw [hB] at hG
        obtain ⟨m', e', rfl, rfl⟩ := hG
        refine WO.callD rfl rfl rfl rfl rfl hM rfl rfl rfl rfl ?_
        refine WO.hard (r := 45) (p := [0]) (x := .ow 185 3 b.toL.length (encL ndc b.toL)) (y := .tu [.im b.toL.length (encL ndc b.toL), .sc (.bool true)]) rfl rfl (hard_tu (encL_pl _)) ?_
        refine go2 ?_
        refine WO.stI (cs' := [i64 a, .im b.toL.length (encL ndc b.toL), .im 0 []]) rfl rfl rfl rfl rfl rfl rfl ?_
        refine go2 ?_
        refine WO.callFB rfl (.cons (frzA rfl rfl) (.cons (.plain _ rfl) .nil)) (nstIs x hx c _ _ 9) rfl (fun h3 => ?_) (fun h3 => ?_)
        · refine go2 ?_
          refine WO.st (cs' := nsc x ((c : Int) + 1) m' e') rfl rfl rfl rfl rfl rfl rfl ?_
          refine go2 ?_
          obtain ⟨res, fin, hM2, hG2⟩ := ih (c + 1) (by omega) (by omega) m' e'
          rw [← e2] at hM2
          unfold manyG at hG2
          cases hB2 : B x (c + 1) with
          | none =>
            rw [hB2] at hG2
            obtain ⟨a', m', e', rfl, rfl⟩ := hG2
            refine WO.callD rfl rfl rfl rfl rfl hM2 rfl rfl rfl rfl ?_
            refine WO.castI (r := 80) (p := [0]) (y := .tu [.im 0 [], .sc (.bool false)]) rfl rfl ?_
            refine go2 ?_
            refine WO.stI (cs' := [i64 a, .im b.toL.length (encL ndc b.toL), .im 0 []]) rfl rfl rfl rfl rfl rfl rfl ?_
            refine go2 ?_
            refine WO.bld (cs := [i64 0, .nl, .nl]) rfl rfl rfl rfl ?_
            refine go2 ?_
            exact retCVE (G := oneG x a m e) rfl rfl rfl rfl rfl rfl rfl (by unfold oneG; rw [if_pos hn, show E x a = none by simp [E, nd, hn, hB, h', h3, hB2]]; exact ⟨_, _, _, rfl, rfl⟩)
          | some eo =>
            rw [hB2] at hG2
            obtain ⟨d, o⟩ := eo
            have hdl := B_lt hB2 (by have := h3.1; omega)
            obtain ⟨m', e', rfl, rfl⟩ := hG2
            refine WO.callD rfl rfl rfl rfl rfl hM2 rfl rfl rfl rfl ?_
            refine WO.hard (r := 80) (p := [0]) (x := .ow 185 3 o.toL.length (encL ndc o.toL)) (y := .tu [.im o.toL.length (encL ndc o.toL), .sc (.bool true)]) rfl rfl (hard_tu (encL_pl _)) ?_
            refine go2 ?_
            refine WO.stI (cs' := [i64 a, .im b.toL.length (encL ndc b.toL), .im o.toL.length (encL ndc o.toL)]) rfl rfl rfl rfl rfl rfl rfl ?_
            refine go2 ?_
            refine WO.callFB rfl (.cons (frzA rfl rfl) (.cons (.plain _ rfl) .nil)) (nstIs x hx d _ _ 4) rfl (fun h5 => ?_) (fun h5 => ?_)
            · refine go2 ?_
              refine WO.st (cs' := nsc x d c e') rfl rfl rfl rfl rfl rfl rfl ?_
              refine go2 ?_
              refine WO.st (cs' := nsc x d c d) rfl rfl rfl rfl rfl rfl rfl ?_
              refine go2 ?_
              refine WO.st (cs' := nsc x ((d : Int) + 1) c d) rfl rfl rfl rfl rfl rfl rfl ?_
              refine go2 ?_
              exact retCVE (G := oneG x a m e) rfl rfl rfl rfl rfl rfl rfl (by unfold oneG; rw [if_pos hn, show E x a = some ((c : Int), d, b, o) by simp [E, nd, hn, hB, h', h3, hB2, h5]]; simp only [ndc, encN_eq]; first | exact ⟨rfl, rfl⟩ | exact ⟨trivial, rfl⟩)
            · refine go2 ?_
              refine WO.bld (cs := [i64 0, .nl, .nl]) rfl rfl rfl rfl ?_
              refine go2 ?_
              exact retCVE (G := oneG x a m e) rfl rfl rfl rfl rfl rfl rfl (by unfold oneG; rw [if_pos hn, show E x a = none by simp [E, nd, hn, hB, h', h3, hB2, h5]]; exact ⟨_, _, _, rfl, rfl⟩)
        · refine go2 ?_
          refine WO.callFB rfl (.cons (frzA rfl rfl) (.cons (.plain _ rfl) .nil)) (nstIs x hx c _ _ 4) rfl (fun h4 => ?_) (fun h4 => ?_)
          · refine go2 ?_
            refine WO.bld (cs := [i64 0, .nl, .nl]) rfl rfl rfl rfl ?_
            refine go2 ?_
            exact retCVE (G := oneG x a m e) rfl rfl rfl rfl rfl rfl rfl (by unfold oneG; rw [if_pos hn, show E x a = none by simp [E, nd, hn, hB, h', h4, h3]]; exact ⟨_, _, _, rfl, rfl⟩)
          · refine go2 ?_
            refine WO.bld (cs := [i64 0, .nl, .nl]) rfl rfl rfl rfl ?_
            refine go2 ?_
            exact retCVE (G := oneG x a m e) rfl rfl rfl rfl rfl rfl rfl (by unfold oneG; rw [if_pos hn, show E x a = none by simp [E, nd, hn, hB, h', h4, h3]]; exact ⟨_, _, _, rfl, rfl⟩)
  · have hn' := hn
    unfold nestA at hn'
    rw [hop] at hn'
    refine go2 ?_
    exact retCVE (G := oneG x a m e) rfl rfl rfl rfl rfl rfl rfl (by unfold oneG; rw [if_neg hn]; exact ⟨rfl, rfl⟩)
set_option maxHeartbeats 20000000 in
theorem many_all (x : List St) (hx : x.length ≤ 1000) : ∀ (k a : Nat), x.length - a ≤ k → a ≤ x.length + 1 → ∀ m e : Int, ∃ res fin, Ev Try.prog X (.fn 156 [.op (nsc x a m e)] res fin) ∧ manyG x a res fin := by
  intro k
  induction k with
  | zero =>
    intro a h ha m e
    refine Ev.fnE (env := [(0, .ad 1000000 [] 0), (1000000, .op (nsc x a m e))]) (manyG x a) Try.func156 rfl nm_impl_nester_many rfl rfl (by kernel_rfl) (.cons rfl (.cons rfl .nil)) ?_
    refine go2 ?_
    refine WC.loopS (S := Unit) (fun _ => [(0, .ad 1000000 [] 0), (4, .ow 185 3 0 []), (1000000, .op (nsc x a m e))]) (fun _ => True) (fun _ => 0) () (.cons rfl (.cons rfl (.cons rfl .nil))) trivial ?_
    intro _ _
    refine go2 ?_
    refine WC.regionD ⟨[[], [0], [0, 1], [0, 1, 2], [], [4], [4, 5], [4, 5, 6], [4, 5, 6, 7], [0, 1, 2, 3, 4, 5, 6, 7, 8], [0, 1, 2, 3, 4, 5, 6, 7, 8, 9], [0, 1, 2, 3, 4, 5, 6, 7, 8, 9, 10], [0, 1, 2, 3, 4, 5, 6, 7, 8, 9, 10, 11], [0, 1, 2, 3, 4, 5, 6, 7, 8, 9, 10, 11, 12], [0, 1, 2, 3, 4, 5, 6, 7, 8, 9, 10, 11, 12, 13], [0, 1, 2, 3, 4, 5, 6, 7, 8, 9, 10, 11, 12, 13, 14], [0, 1, 2, 3, 4, 5, 6, 7, 8, 9, 10, 11, 12, 13, 14, 15], [0, 1, 2, 3, 4, 5, 6, 7, 8, 9, 10, 11, 12, 13, 14, 15, 16], [0, 1, 2, 3, 4, 5, 6, 7, 8, 9, 10, 11, 12, 13, 14, 15, 16, 17], [0, 1, 2, 3, 4, 5, 6, 7, 8, 9, 10, 11, 12, 13, 14, 15, 16, 17, 18], [0, 1, 2, 3, 4, 5, 6, 7, 8, 9, 10, 11, 12, 13, 14, 15, 16, 17, 18, 19], [0, 1, 2, 3, 4, 5, 6, 7, 8, 9, 10, 11, 12, 13, 14, 15, 16, 17, 18, 19, 20], [0, 1, 2, 3, 4, 5, 6, 7, 8, 9, 10, 11, 12, 13, 14, 15, 16, 17, 18, 19, 20, 21], [0, 1, 2, 3, 4, 5, 6, 7, 8, 9, 10, 11, 12, 13, 14, 15, 16, 17, 18, 19, 20, 21, 22], [0, 1, 2, 3, 4, 5, 6, 7, 8, 9, 10, 11, 12, 13, 14, 15, 16, 17, 18, 19, 20, 21, 22, 23]], [0, 1, 2, 3, 4, 5, 6, 7, 8, 9, 10, 11, 13, 14, 15, 16, 18, 19, 20, 21, 23, 24], [], [8, 9, 10, 11, 12, 13, 14, 15, 16, 17, 18, 19, 21, 22, 23, 24, 26, 27, 28, 29, 31, 32], [0, 1, 2, 3, 4, 5, 6, 7, 8, 9, 10, 11, 12, 13, 14, 15, 16, 17, 18, 19, 20, 21, 22, 23, 24], [([12, 13, 14, 15, 16], [12, 13, 14, 15, 16], false), ([12, 13, 14, 15, 16], [12, 13, 14, 15, 16], false), ([12, 13, 14, 15, 16], [12, 13, 14, 15, 16], false), ([12, 13, 14, 15, 16], [12, 13, 14, 15, 16], false), ([8, 9, 10, 11], [8, 9, 10, 11], false), ([8, 9, 10, 11], [8, 9, 10, 11], false), ([8, 9, 10, 11], [8, 9, 10, 11], false), ([8, 9, 10, 11], [8, 9, 10, 11], false), ([8, 9, 10, 11], [8, 9, 10, 11], false), ([], [], false), ([], [], false), ([], [], false), ([], [], false), ([], [], false), ([], [], false), ([], [], false), ([], [], false), ([], [], false), ([], [], false), ([], [], false), ([], [], false), ([], [], false), ([], [], false), ([], [], false), ([], [], false)]⟩ (by kernel_rfl) rfl ?_
    refine go2 ?_
    exact retOVE (G := manyG x a) rfl rfl rfl rfl rfl rfl (by unfold manyG; rw [B_end (by omega)]; exact ⟨m, e, rfl, rfl⟩)
  | succ k ih =>
    intro a hk ha m e
    refine Ev.fnE (env := [(0, .ad 1000000 [] 0), (1000000, .op (nsc x a m e))]) (manyG x a) Try.func156 rfl nm_impl_nester_many rfl rfl (by kernel_rfl) (.cons rfl (.cons rfl .nil)) ?_
    refine go2 ?_
    refine WC.loopS (S := Nat × List (Nat × Ns × Ns) × Int × Int) (fun v => [(0, .ad 1000000 [] 0), (4, .ow 185 3 v.2.1.length (encL ndc v.2.1)), (1000000, .op (nsc x v.1 v.2.2.1 v.2.2.2))]) (fun v => a ≤ v.1 ∧ v.1 ≤ x.length + 1 ∧ v.2.1.length ≤ v.1 ∧ match B x v.1 with | none => B x a = none | some (s, r) => ∃ r', B x a = some (s, r') ∧ r'.toL = v.2.1 ++ r.toL) (fun v => x.length + 1 - v.1) (a, [], m, e) (.cons rfl (.cons rfl (.cons rfl .nil))) ⟨Nat.le_refl _, by omega, by simp, by dsimp only; cases B x a with | none => rfl | some q => exact ⟨q.2, rfl, rfl⟩⟩ ?_
    rintro ⟨c, l, m', e'⟩ ⟨g1, g2, g3, g4⟩
    dsimp only at g1 g2 g3 g4 ⊢
    have hop : opA x c = (x.getD c zst).op := rfl
    refine go2 ?_
    refine WC.regionD ⟨[[], [0], [0, 1], [0, 1, 2], [], [4], [4, 5], [4, 5, 6], [4, 5, 6, 7], [0, 1, 2, 3, 4, 5, 6, 7, 8], [0, 1, 2, 3, 4, 5, 6, 7, 8, 9], [0, 1, 2, 3, 4, 5, 6, 7, 8, 9, 10], [0, 1, 2, 3, 4, 5, 6, 7, 8, 9, 10, 11], [0, 1, 2, 3, 4, 5, 6, 7, 8, 9, 10, 11, 12], [0, 1, 2, 3, 4, 5, 6, 7, 8, 9, 10, 11, 12, 13], [0, 1, 2, 3, 4, 5, 6, 7, 8, 9, 10, 11, 12, 13, 14], [0, 1, 2, 3, 4, 5, 6, 7, 8, 9, 10, 11, 12, 13, 14, 15], [0, 1, 2, 3, 4, 5, 6, 7, 8, 9, 10, 11, 12, 13, 14, 15, 16], [0, 1, 2, 3, 4, 5, 6, 7, 8, 9, 10, 11, 12, 13, 14, 15, 16, 17], [0, 1, 2, 3, 4, 5, 6, 7, 8, 9, 10, 11, 12, 13, 14, 15, 16, 17, 18], [0, 1, 2, 3, 4, 5, 6, 7, 8, 9, 10, 11, 12, 13, 14, 15, 16, 17, 18, 19], [0, 1, 2, 3, 4, 5, 6, 7, 8, 9, 10, 11, 12, 13, 14, 15, 16, 17, 18, 19, 20], [0, 1, 2, 3, 4, 5, 6, 7, 8, 9, 10, 11, 12, 13, 14, 15, 16, 17, 18, 19, 20, 21], [0, 1, 2, 3, 4, 5, 6, 7, 8, 9, 10, 11, 12, 13, 14, 15, 16, 17, 18, 19, 20, 21, 22], [0, 1, 2, 3, 4, 5, 6, 7, 8, 9, 10, 11, 12, 13, 14, 15, 16, 17, 18, 19, 20, 21, 22, 23]], [0, 1, 2, 3, 4, 5, 6, 7, 8, 9, 10, 11, 13, 14, 15, 16, 18, 19, 20, 21, 23, 24], [], [8, 9, 10, 11, 12, 13, 14, 15, 16, 17, 18, 19, 21, 22, 23, 24, 26, 27, 28, 29, 31, 32], [0, 1, 2, 3, 4, 5, 6, 7, 8, 9, 10, 11, 12, 13, 14, 15, 16, 17, 18, 19, 20, 21, 22, 23, 24], [([12, 13, 14, 15, 16], [12, 13, 14, 15, 16], false), ([12, 13, 14, 15, 16], [12, 13, 14, 15, 16], false), ([12, 13, 14, 15, 16], [12, 13, 14, 15, 16], false), ([12, 13, 14, 15, 16], [12, 13, 14, 15, 16], false), ([8, 9, 10, 11], [8, 9, 10, 11], false), ([8, 9, 10, 11], [8, 9, 10, 11], false), ([8, 9, 10, 11], [8, 9, 10, 11], false), ([8, 9, 10, 11], [8, 9, 10, 11], false), ([8, 9, 10, 11], [8, 9, 10, 11], false), ([], [], false), ([], [], false), ([], [], false), ([], [], false), ([], [], false), ([], [], false), ([], [], false), ([], [], false), ([], [], false), ([], [], false), ([], [], false), ([], [], false), ([], [], false), ([], [], false), ([], [], false), ([], [], false)]⟩ (by kernel_rfl) rfl ?_
    refine go2 ?_
    have stop : B x c = some (c, .nil) → manyG x a (.tu [.ow 185 3 l.length (encL ndc l), .sc (.bool true)]) [.op (nsc x c m' e')] := fun hB => by
      rw [hB] at g4
      obtain ⟨r', h1, h2⟩ := g4
      simp only [Ns.toL, List.append_nil] at h2
      unfold manyG
      rw [h1]
      dsimp only
      rw [h2]
      exact ⟨m', e', rfl, rfl⟩
    refine WD.cmp rfl rfl rfl rfl rfl rfl rfl rfl rfl rfl (fun h3 => ?_) (fun h3 => ?_)
    · have hc : c < x.length := by omega
      refine go2 ?_
      refine WO.callFB rfl (.cons (frzA rfl rfl) (.cons (.plain _ rfl) .nil)) (nstIs x hx c _ _ 3) rfl (fun k3 => ?_) (fun k3 => ?_)
      · refine go2 ?_
        exact retOVE (G := manyG x a) rfl rfl (encL_length _) rfl rfl rfl (stop (B_stop hc (.inl k3.2)))
      refine go2 ?_
      refine WO.callFB rfl (.cons (frzA rfl rfl) (.cons (.plain _ rfl) .nil)) (nstIs x hx c _ _ 4) rfl (fun k4 => ?_) (fun k4 => ?_)
      · refine go2 ?_
        exact retOVE (G := manyG x a) rfl rfl (encL_length _) rfl rfl rfl (stop (B_stop hc (.inr (.inl k4.2))))
      refine go2 ?_
      refine WO.callFB rfl (.cons (frzA rfl rfl) (.cons (.plain _ rfl) .nil)) (nstIs x hx c _ _ 9) rfl (fun k9 => ?_) (fun k9 => ?_)
      · refine go2 ?_
        exact retOVE (G := manyG x a) rfl rfl (encL_length _) rfl rfl rfl (stop (B_stop hc (.inr (.inr k9.2))))
      have hs : ¬ stopA x c := fun h => by
        rcases h with h | h | h
        · exact k3 ⟨hc, h⟩
        · exact k4 ⟨hc, h⟩
        · exact k9 ⟨hc, h⟩
      refine go2 ?_
      obtain ⟨res, fin, hO, hG⟩ := one_of (X := X) x hx c hc m' e' (fun d hd hdl m e => ih d (by omega) hdl m e)
      have app : ∀ (b o : Ns), AV.ow 185 3 (l.length + 1) (encL ndc l ++ ndc (c, b, o)) = .ow 185 3 (l ++ [(c, b, o)]).length (encL ndc (l ++ [(c, b, o)])) := fun b o => by
        rw [List.length_append, encL_append]; rfl
      unfold oneG at hG
      by_cases hn : nestA x c
      · rw [if_pos hn] at hG
        cases hE : E x c with
        | none =>
          rw [hE] at hG
          obtain ⟨a', m2, e2, rfl, rfl⟩ := hG
          rw [B_nest hc hn, hE] at g4
          refine WO.callD rfl rfl rfl rfl rfl hO rfl rfl rfl rfl ?_
          refine go2 ?_
          exact retPPE (G := manyG x a) rfl rfl rfl rfl rfl rfl (by unfold manyG; rw [g4]; exact ⟨_, _, _, rfl, rfl⟩)
        | some q =>
          obtain ⟨d, e2, b, o⟩ := q
          have hle := (E_le hE).1
          have hle2 := (E_le hE).2.1
          rw [hE] at hG
          obtain ⟨rfl, rfl⟩ := hG
          refine WO.callD rfl rfl rfl rfl rfl hO rfl rfl rfl rfl ?_
          refine go2 ?_
          refine WO.b1A rfl rfl rfl rfl rfl rfl rfl rfl ?_
          refine WO.apVM rfl rfl rfl (encL_length _) rfl rfl rfl rfl rfl (by unfold maxLen; omega) (by omega) rfl ?_
          rw [app, show (e2 : Int) + 1 = ((e2 + 1 : Nat) : Int) by omega]
          refine WO.cln 4 ?_
          refine go2 ?_
          refine lpK.mk (e2 + 1, l ++ [(c, b, o)], d, e2) (.cons rfl (.cons rfl (.cons rfl .nil))) ⟨by dsimp only; omega, by dsimp only; omega, by dsimp only; rw [List.length_append]; simp; omega, ?_⟩ (by dsimp only; omega)
          dsimp only
          rw [B_nest hc hn, hE] at g4
          dsimp only at g4
          cases hB : B x (e2 + 1) with
          | none => rw [hB] at g4; exact g4
          | some q =>
            rw [hB] at g4
            obtain ⟨r', h1, h2⟩ := g4
            exact ⟨r', h1, by rw [h2]; simp [Ns.toL]⟩
      · rw [if_neg hn] at hG
        obtain ⟨rfl, rfl⟩ := hG
        refine WO.callD rfl rfl rfl rfl rfl hO rfl rfl rfl rfl ?_
        refine go2 ?_
        refine WO.b1A rfl rfl rfl rfl rfl rfl rfl rfl ?_
        refine WO.apVM rfl rfl rfl (encL_length _) rfl rfl rfl rfl rfl (by unfold maxLen; omega) (by omega) rfl ?_
        rw [app, show (c : Int) + 1 = ((c + 1 : Nat) : Int) by omega]
        refine WO.cln 4 ?_
        refine go2 ?_
        refine lpK.mk (c + 1, l ++ [(c, .nil, .nil)], m', e') (.cons rfl (.cons rfl (.cons rfl .nil))) ⟨by dsimp only; omega, by dsimp only; omega, by dsimp only; rw [List.length_append]; simp; omega, ?_⟩ (by dsimp only; omega)
        dsimp only
        rw [B_leaf hc hs hn] at g4
        cases hB : B x (c + 1) with
        | none => rw [hB] at g4; exact g4
        | some q =>
          rw [hB] at g4
          obtain ⟨r', h1, h2⟩ := g4
          exact ⟨r', h1, by rw [h2]; simp [Ns.toL]⟩
    · refine go2 ?_
      exact retOVE (G := manyG x a) rfl rfl (encL_length _) rfl rfl rfl (stop (B_end (by omega)))
theorem many (x : List St) (hx : x.length ≤ 1000) (a : Nat) (ha : a ≤ x.length + 1) (m e : Int) : ∃ res fin, Ev Try.prog X (.fn 156 [.op (nsc x a m e)] res fin) ∧ manyG x a res fin := many_all x hx _ a (Nat.le_refl _) ha m e
theorem one (x : List St) (hx : x.length ≤ 1000) (a : Nat) (ha : a < x.length) (m e : Int) : ∃ res fin, Ev Try.prog X (.fn 194 [.op (nsc x a m e)] res fin) ∧ oneG x a m e res fin := one_of x hx a ha m e (fun c hc hcl m e => many x hx c hcl m e)
end Go.Eng.C
