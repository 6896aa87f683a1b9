/- Contracts of functions, by the engine: the nodes of a body and their steps, of the program. -/
import Derived.Test.YtbhdobjjhkkpkaaEngXi
import Derived.Test.YtbhdobjjhkkpkaaEngB4
namespace Go.Eng.C
open Go Go.Eng Go.RowKit Go.Proofs
set_option linter.unusedVariables false
set_option linter.unusedSimpArgs false
set_option maxRecDepth 10000
variable {X : FuncId → List AV → AV → List AV → Prop}
def nodesG (x : List St) (res : AV) (fin : List AV) : Prop := fin = [.dead] ∧ match nodesX x with
  | some r => res = .tu [.im r.toL.length (encL ndc r.toL), .sc (.bool true)]
  | none => res = .tu [.nl, .sc (.bool false)] ∨ ∃ n cs, res = .tu [.im n cs, .sc (.bool false)]
set_option maxHeartbeats 8000000 in
theorem nodesOf (x : List St) (hx : x.length ≤ 1000) : ∃ res fin, Ev Try.prog X (.fn 85 [.im x.length (encL stR x)] res fin) ∧ nodesG x res fin := by
  refine Ev.fnE (env := [(0, .im x.length (encL stR x))]) (nodesG x) Try.func85 rfl nm_impl_nodesOf rfl rfl (by kernel_rfl) (.cons rfl .nil) ?_
  refine go2 ?_
  refine WO.bld (cs := nsc x 0 0 0) rfl rfl rfl rfl ?_
  refine go2 ?_
  obtain ⟨res, fin, hM, hG⟩ := many (X := X) x hx 0 (by omega) 0 0
  unfold manyG at hG
  cases hB : B x 0 with
  | none =>
    rw [hB] at hG
    obtain ⟨a', m', e', rfl, rfl⟩ := hG
    refine WO.callD rfl rfl rfl rfl rfl hM rfl rfl rfl rfl ?_
    refine go2 ?_
    refine WC.regionDd ⟨[[], [], [1], [1, 2], [1, 2, 3], [1, 2], [1, 2, 5], [1, 2, 3, 4, 5, 6], [1, 2, 3, 4, 5, 6, 7], [0, 1, 2], [0, 1, 2, 3, 4, 5, 6, 7, 8, 9]], [0, 1, 2, 3, 4, 5, 6, 7, 8, 9], [], [13, 14, 15, 16, 17, 18, 19, 20, 21, 2], [0, 1, 2, 3, 4, 5, 6, 7, 8, 9, 10], [([14, 15, 16, 17, 18, 19, 20, 21], [14, 15, 16, 17, 18, 19, 20, 21], false), ([13], [13], false), ([13], [13], false), ([13, 18, 19, 2], [13, 18, 19, 2], false), ([13, 18, 19, 2], [13, 18, 19, 2], false), ([13, 16, 17, 2], [13, 16, 17, 2], false), ([13, 16, 17, 2], [13, 16, 17, 2], false), ([13, 2], [13, 2], false), ([13, 2], [13, 2], false), ([16, 17, 18, 19, 20, 21], [16, 17, 18, 19, 20, 21], false), ([], [], false)]⟩ (by kernel_rfl) ?_
    refine go2 ?_
    refine WD.q rfl rfl rfl rfl rfl (QE.mvNl (.assign _) rfl) rfl rfl rfl ?_
    refine go2 ?_
    exact retPPE (G := nodesG x) rfl rfl rfl rfl rfl rfl (by unfold nodesG nodesX; rw [hB]; exact ⟨rfl, .inl rfl⟩)
  | some q =>
    obtain ⟨s, r⟩ := q
    rw [hB] at hG
    obtain ⟨m', e', rfl, rfl⟩ := hG
    refine WO.callD rfl rfl rfl rfl rfl hM rfl rfl rfl rfl ?_
    refine WO.hard (r := 10) (p := [0]) (x := .ow 185 3 r.toL.length (encL ndc r.toL)) (y := .tu [.im r.toL.length (encL ndc r.toL), .sc (.bool true)]) rfl rfl (hard_tu (encL_pl _)) ?_
    refine go2 ?_
    refine WC.regionDd ⟨[[], [], [1], [1, 2], [1, 2, 3], [1, 2], [1, 2, 5], [1, 2, 3, 4, 5, 6], [1, 2, 3, 4, 5, 6, 7], [0, 1, 2], [0, 1, 2, 3, 4, 5, 6, 7, 8, 9]], [0, 1, 2, 3, 4, 5, 6, 7, 8, 9], [], [13, 14, 15, 16, 17, 18, 19, 20, 21, 2], [0, 1, 2, 3, 4, 5, 6, 7, 8, 9, 10], [([14, 15, 16, 17, 18, 19, 20, 21], [14, 15, 16, 17, 18, 19, 20, 21], false), ([13], [13], false), ([13], [13], false), ([13, 18, 19, 2], [13, 18, 19, 2], false), ([13, 18, 19, 2], [13, 18, 19, 2], false), ([13, 16, 17, 2], [13, 16, 17, 2], false), ([13, 16, 17, 2], [13, 16, 17, 2], false), ([13, 2], [13, 2], false), ([13, 2], [13, 2], false), ([16, 17, 18, 19, 20, 21], [16, 17, 18, 19, 20, 21], false), ([], [], false)]⟩ (by kernel_rfl) ?_
    refine go2 ?_
    refine WD.cmp rfl rfl rfl rfl rfl rfl rfl rfl rfl rfl (fun h3 => ?_) (fun h3 => ?_)
    · refine go2 ?_
      refine WD.q rfl rfl rfl rfl rfl (QE.mvIm (.assign _) rfl) rfl rfl rfl ?_
      refine go2 ?_
      exact retPPE (G := nodesG x) rfl rfl rfl rfl rfl rfl (by unfold nodesG nodesX; rw [hB]; simp only; rw [if_pos (by omega)]; exact ⟨rfl, rfl⟩)
    · refine go2 ?_
      refine WD.q rfl rfl rfl rfl rfl (QE.mvIm (.assign _) rfl) rfl rfl rfl ?_
      refine go2 ?_
      exact retPPE (G := nodesG x) rfl rfl rfl rfl rfl rfl (by unfold nodesG nodesX; rw [hB]; simp only; rw [if_neg (by omega)]; exact ⟨rfl, .inr ⟨_, _, rfl⟩⟩)
theorem Ns.toL_le : ∀ (r : Ns), r.toL.length ≤ r.sz
  | .nil => Nat.le_refl _
  | .cons a b o q => by have := Ns.toL_le q; simp only [Ns.toL, Ns.sz, List.length_cons]; omega
theorem Bk.sz_le {x : List St} {a s : Nat} {r : Ns} (h : Bk x a s r) : r.sz + a ≤ s := by
  induction h with
  | nil => simp [Ns.sz]
  | leaf _ _ _ _ ih => simp only [Ns.sz]; omega
  | one _ _ _ _ _ _ ih1 ih2 => simp only [Ns.sz]; omega
  | two _ _ _ _ _ _ _ ih1 ih2 ih3 => simp only [Ns.sz]; omega
theorem drop_cons_getD {α : Type} {l : List α} {i : Nat} {a : α} {m : List α} (d : α) (h : l.drop i = a :: m) : i < l.length ∧ l.getD i d = a ∧ l.drop (i + 1) = m := by
  have hi : i < l.length := by
    rcases Nat.lt_or_ge i l.length with h1 | h1
    · exact h1
    · rw [List.drop_of_length_le h1] at h; cases h
  rw [drop_getD hi d] at h
  simp only [List.cons.injEq] at h
  exact ⟨hi, h.1, h.2⟩
set_option maxHeartbeats 20000000 in
theorem stepsIn' (x : List St) (hx : x.length ≤ 40) (hL : loopOk x) : ∀ (k : Nat) (r : Ns), r.sz ≤ k → r.sz ≤ 1000 → okN x r → Ev Try.prog X (.fn 109 [.im x.length (encL stR x), .im r.toL.length (encL ndc r.toL)] (i64 (min 4000 (stp x r))) [.dead, .dead]) := by
  intro k
  induction k with
  | zero =>
    intro r h0 _ _
    cases r with
    | cons a b o q => simp only [Ns.sz] at h0; omega
    | nil =>
      refine Ev.fnW (env := [(0, .im x.length (encL stR x)), (1, .im 0 [])]) Try.func109 rfl nm_impl_stepsIn rfl rfl (by kernel_rfl) (.cons rfl (.cons rfl .nil)) ?_
      refine go2 ?_
      refine WC.loopS (S := Unit) (fun _ => [(5, i64 0), (10, i64 0), (11, i64 0)]) (fun _ => True) (fun _ => 0) () (.cons rfl (.cons rfl (.cons rfl .nil))) trivial ?_
      intro _ _
      refine go2 ?_
      exact retV rfl rfl rfl rfl
  | succ k ih =>
  intro r h0 h1 hr
  have hrl := Ns.toL_le r
  refine Ev.fnW (env := [(0, .im x.length (encL stR x)), (1, .im r.toL.length (encL ndc r.toL))]) Try.func109 rfl nm_impl_stepsIn rfl rfl (by kernel_rfl) (.cons rfl (.cons rfl .nil)) ?_
  refine go2 ?_
  refine WC.loopS (S := Nat × Int × Ns) (fun v => [(0, .im x.length (encL stR x)), (5, i64 v.2.1), (9, .im r.toL.length (encL ndc r.toL)), (10, i64 r.toL.length), (11, i64 v.1)]) (fun v => r.toL.drop v.1 = v.2.2.toL ∧ okN x v.2.2 ∧ v.2.2.sz ≤ r.sz ∧ 0 ≤ v.2.1 ∧ v.2.1 ≤ 4000 ∧ min 4000 (v.2.1 + stp x v.2.2) = min 4000 (stp x r)) (fun v => v.2.2.sz) (0, 0, r) (.cons rfl (.cons rfl (.cons rfl (.cons rfl (.cons rfl .nil))))) ⟨rfl, hr, Nat.le_refl _, by simp, by simp, by simp⟩ ?_
  rintro ⟨i, n, rest⟩ ⟨g1, g2, g3, g4, g5, g6⟩
  dsimp only at g1 g2 g3 g4 g5 g6 ⊢
  refine go2 ?_
  refine WO.cmp rfl rfl rfl rfl rfl (fun h3 => ?_) (fun h3 => ?_)
  · cases rest with
    | nil =>
      exfalso
      have := congrArg List.length g1
      simp [Ns.toL] at this; omega
    | cons a b o q =>
      obtain ⟨hi, hg, hd⟩ := drop_cons_getD (0, .nil, .nil) g1
      obtain ⟨ha, hb, ho, hq⟩ := g2
      simp only [Ns.sz] at g3
      have hop : opA x a = (x.getD a zst).op := rfl
      have hnA : nA x a = (x.getD a zst).n := rfl
      have nb := stp_nn hL hb
      have no := stp_nn hL ho
      have nq := stp_nn hL hq
      have ib := ih b (by omega) (by omega) hb
      have io := ih o (by omega) (by omega) ho
      rw [← encN_eq] at ib io
      refine go2 ?_
      refine WO.ixN (f := ndc) (0, .nil, .nil) rfl rfl rfl hi rfl ?_
      rw [hg]
      refine go2 ?_
      refine WO.ixN (f := stR) zst rfl rfl rfl ha rfl ?_
      refine go2 ?_
      by_cases c2 : opA x a = 2
      · have e2 : stp x (.cons a b o q) = 1 + max (stp x b) (stp x o) + stp x q := by simp only [stp]; rw [if_pos c2]
        rw [hop] at c2
        refine go2 ?_
        refine WC.regionD ⟨[[], [], [], [2], [1, 2, 3], [], [], [6], [1, 2, 3, 4, 5, 6, 7], [1, 2, 3, 4, 5, 6, 7, 8], [1, 2, 3, 4, 5, 6, 7, 8, 9], [0, 1, 2, 3, 4, 5, 6, 7, 8, 9, 10], [0, 1, 2, 3, 4, 5, 6, 7, 8, 9, 10, 11]], [0, 1, 2, 3, 4, 5, 6, 7, 8, 9, 10, 11], [], [26, 27, 28, 29, 30, 31, 32, 33, 34, 35, 36, 37], [0, 1, 2, 3, 4, 5, 6, 7, 8, 9, 10, 11, 12], [([27, 28, 29, 30, 31, 32, 33, 34, 35, 36], [27, 28, 29, 30, 31, 32, 33, 34, 35, 36], false), ([26, 28, 29, 31, 32, 33], [26, 28, 29, 31, 32, 33], false), ([26, 27, 31, 32, 33], [26, 27, 31, 32, 33], false), ([26, 27, 31, 32, 33], [26, 27, 31, 32, 33], false), ([26, 31, 32, 33], [26, 31, 32, 33], false), ([26, 27, 28, 29, 30, 32, 33], [26, 27, 28, 29, 30, 32, 33], false), ([26, 27, 28, 29, 30, 31], [26, 27, 28, 29, 30, 31], false), ([26, 27, 28, 29, 30, 31], [26, 27, 28, 29, 30, 31], false), ([26], [26], false), ([26], [26], false), ([26], [26], false), ([], [], false), ([], [], false)]⟩ (by kernel_rfl) rfl ?_
        refine go2 ?_
        refine WD.call rfl rfl rfl rfl rfl rfl rfl ib rfl rfl rfl ?_
        refine go2 ?_
        refine WD.call rfl rfl rfl rfl rfl rfl rfl io rfl rfl rfl ?_
        refine go2 ?_
        refine WD.q rfl rfl rfl rfl rfl (QE.max rfl rfl) rfl rfl rfl ?_
        refine go2 ?_
        refine WO.q rfl (QE.min rfl rfl) rfl rfl ?_
        refine go2 ?_
        exact lpK.mk (i + 1, min (n + (1 + max (min 4000 (stp x b)) (min 4000 (stp x o)))) 4000, q) (.cons rfl (.cons rfl (.cons rfl (.cons rfl (.cons rfl .nil))))) ⟨hd, hq, by dsimp only; omega, by dsimp only; omega, by dsimp only; omega, by dsimp only; omega⟩ (by dsimp only; simp only [Ns.sz]; omega)
      by_cases c5 : opA x a = 5
      · have e2 : stp x (.cons a b o q) = 1 + nA x a * (1 + stp x b) + stp x q := by simp only [stp]; rw [if_neg c2, if_pos c5]
        have hl := hL a ha c5
        rw [hop] at c2 c5
        rw [hnA] at e2 hl
        generalize hN : (x.getD a zst).n = N at *
        have hAB : (N * (1 + min 4000 (stp x b)) = N * (1 + stp x b) ∨ (4000 < N * (1 + min 4000 (stp x b)) ∧ 4000 < N * (1 + stp x b))) ∧ 0 ≤ N * (1 + min 4000 (stp x b)) ∧ N * (1 + min 4000 (stp x b)) ≤ 16004 ∧ 0 ≤ N * (1 + stp x b) := by
          have : N = 0 ∨ N = 1 ∨ N = 2 ∨ N = 3 ∨ N = 4 := by omega
          rcases this with h | h | h | h | h <;> subst h <;> omega
        have mm : bin64 .mul N (1 + min 4000 (stp x b)) = some (.int .i64 (N * (1 + min 4000 (stp x b)))) := by
          simp only [bin64]; rw [w64 (by omega) (by omega)]
        refine go2 ?_
        refine WC.regionD ⟨[[], [], [1], [], [], [4], [3, 4, 5], [3, 4, 5, 6], [1, 2, 3, 4, 5, 6, 7], [1, 2, 3, 4, 5, 6, 7, 8], [0, 1, 2, 3, 4, 5, 6, 7, 8, 9], [0, 1, 2, 3, 4, 5, 6, 7, 8, 9, 10]], [0, 1, 2, 3, 4, 5, 6, 7, 8, 9, 10], [], [40, 41, 42, 43, 44, 45, 46, 47, 48, 49, 50], [0, 1, 2, 3, 4, 5, 6, 7, 8, 9, 10, 11], [([41, 42, 43, 44, 45, 46, 47, 48, 49], [41, 42, 43, 44, 45, 46, 47, 48, 49], false), ([40, 43, 44, 45, 46, 47], [40, 43, 44, 45, 46, 47], false), ([40, 43, 44, 45, 46, 47], [40, 43, 44, 45, 46, 47], false), ([40, 41, 42, 44, 45], [40, 41, 42, 44, 45], false), ([40, 41, 42, 43], [40, 41, 42, 43], false), ([40, 41, 42, 43], [40, 41, 42, 43], false), ([40, 41, 42], [40, 41, 42], false), ([40, 41, 42], [40, 41, 42], false), ([40], [40], false), ([40], [40], false), ([], [], false), ([], [], false)]⟩ (by kernel_rfl) rfl ?_
        refine go2 ?_
        refine WD.call rfl rfl rfl rfl rfl rfl rfl ib rfl rfl rfl ?_
        refine go2 ?_
        refine WD.q rfl rfl rfl rfl rfl (QE.bin (v := .int .i64 (N * (1 + min 4000 (stp x b)))) (by rw [← hN]; rfl) rfl mm rfl) rfl rfl rfl ?_
        generalize N * (1 + min 4000 (stp x b)) = A at *
        generalize N * (1 + stp x b) = D at *
        refine go2 ?_
        refine WO.q rfl (QE.min rfl rfl) rfl rfl ?_
        refine go2 ?_
        exact lpK.mk (i + 1, min (n + (1 + A)) 4000, q) (.cons rfl (.cons rfl (.cons rfl (.cons rfl (.cons rfl .nil))))) ⟨hd, hq, by dsimp only; omega, by dsimp only; omega, by dsimp only; omega, by dsimp only; omega⟩ (by dsimp only; simp only [Ns.sz]; omega)
      by_cases c8 : opA x a = 8
      · have e2 : stp x (.cons a b o q) = 1 + stp x b + stp x o + stp x q := by simp only [stp]; rw [if_neg c2, if_neg c5, if_pos c8]
        rw [hop] at c2 c5 c8
        refine go2 ?_
        refine WC.regionD ⟨[[], [], [], [2], [1, 2, 3], [1, 2, 3, 4], [], [], [7], [1, 2, 3, 4, 6, 7, 8], [1, 2, 3, 4, 5, 6, 7, 8, 9], [0, 1, 2, 3, 4, 5, 6, 7, 8, 9, 10], [0, 1, 2, 3, 4, 5, 6, 7, 8, 9, 10, 11]], [0, 1, 2, 3, 4, 5, 6, 7, 8, 9, 10, 11], [], [53, 54, 55, 56, 57, 58, 59, 60, 61, 62, 63, 64], [0, 1, 2, 3, 4, 5, 6, 7, 8, 9, 10, 11, 12], [([54, 55, 56, 57, 58, 59, 60, 61, 62, 63], [54, 55, 56, 57, 58, 59, 60, 61, 62, 63], false), ([53, 55, 56, 59, 60, 61], [53, 55, 56, 59, 60, 61], false), ([53, 54, 59, 60, 61], [53, 54, 59, 60, 61], false), ([53, 54, 59, 60, 61], [53, 54, 59, 60, 61], false), ([53, 59, 60, 61], [53, 59, 60, 61], false), ([53, 59, 60, 61, 62], [53, 59, 60, 61, 62], false), ([53, 54, 55, 56, 57, 58, 60, 61], [53, 54, 55, 56, 57, 58, 60, 61], false), ([53, 54, 55, 56, 57, 58, 59], [53, 54, 55, 56, 57, 58, 59], false), ([53, 54, 55, 56, 57, 58, 59], [53, 54, 55, 56, 57, 58, 59], false), ([53, 58], [53, 58], false), ([53], [53], false), ([], [], false), ([], [], false)]⟩ (by kernel_rfl) rfl ?_
        refine go2 ?_
        refine WD.call rfl rfl rfl rfl rfl rfl rfl ib rfl rfl rfl ?_
        refine go2 ?_
        refine WD.call rfl rfl rfl rfl rfl rfl rfl io rfl rfl rfl ?_
        refine go2 ?_
        refine WO.q rfl (QE.min rfl rfl) rfl rfl ?_
        refine go2 ?_
        exact lpK.mk (i + 1, min (n + (1 + min 4000 (stp x b) + min 4000 (stp x o))) 4000, q) (.cons rfl (.cons rfl (.cons rfl (.cons rfl (.cons rfl .nil))))) ⟨hd, hq, by dsimp only; omega, by dsimp only; omega, by dsimp only; omega, by dsimp only; omega⟩ (by dsimp only; simp only [Ns.sz]; omega)
      have e2 : stp x (.cons a b o q) = 1 + stp x q := by simp only [stp]; rw [if_neg c2, if_neg c5, if_neg c8]
      rw [hop] at c2 c5 c8
      refine go2 ?_
      refine WO.q rfl (QE.min rfl rfl) rfl rfl ?_
      refine go2 ?_
      exact lpK.mk (i + 1, min (n + 1) 4000, q) (.cons rfl (.cons rfl (.cons rfl (.cons rfl (.cons rfl .nil))))) ⟨hd, hq, by dsimp only; omega, by dsimp only; omega, by dsimp only; omega, by dsimp only; omega⟩ (by dsimp only; simp only [Ns.sz]; omega)
  · cases rest with
    | cons a b o q =>
      exfalso
      have := congrArg List.length g1
      simp [Ns.toL] at this; omega
    | nil =>
      simp only [stp] at g6
      refine go2 ?_
      exact retV rfl (congrArg i64 (by omega)) rfl rfl
theorem stepsIn (x : List St) (hx : x.length ≤ 40) (hL : loopOk x) (r : Ns) (h : r.sz ≤ 1000) (hr : okN x r) : Ev Try.prog X (.fn 109 [.im x.length (encL stR x), .im r.toL.length (encL ndc r.toL)] (i64 (min 4000 (stp x r))) [.dead, .dead]) := stepsIn' x hx hL _ r (Nat.le_refl _) h hr
end Go.Eng.C
