/- Contracts of functions, by the engine: flows, of the program: all statements with their ifs; the flow. -/
import Derived.Test.YtbhdobjjhkkpkaaEngFb
import Derived.Test.YtbhdobjjhkkpkaaEngXl
namespace Go.Eng.C
open Go Go.Eng Go.RowKit Go.Proofs
set_option linter.unusedVariables false
set_option linter.unusedSimpArgs false
set_option maxRecDepth 10000
variable {X : FuncId → List AV → AV → List AV → Prop}
/-- All statements with their ifs, owned. -/
def grds (x : List St) (L : List (Nat × List Nat)) : AV := .ow 115 2 L.length (encL (eG x) L)
theorem grd_app1 (x : List St) (L : List (Nat × List Nat)) (g : Nat × List Nat) : AV.ow 115 2 (L.length + 1) (encL (eG x) L ++ eG x g) = grds x (L ++ [g]) := by
  simp only [grds, encL_append, List.length_append, encL_cons, encL_nil, List.append_nil, List.length_singleton]
theorem grd_app (x : List St) (L M : List (Nat × List Nat)) : AV.ow 115 2 (L.length + M.length) (encL (eG x) L ++ encL (eG x) M) = grds x (L ++ M) := by
  simp only [grds, encL_append, List.length_append]
theorem glN_len (x : List St) : ∀ (r : Ns) (k : List Nat), (glN x r k).length = r.sz
  | .nil, k => rfl
  | .cons a b o r, k => by simp only [glN, List.length_cons, List.length_append, glN_len x b, glN_len x o, glN_len x r, Ns.sz]; omega
theorem ptr_app (x : List St) (k : List Nat) (a : Nat) : AV.ow 112 1 (k.length + 1) (encL (eP x) k ++ eP x a) = .ow 112 1 (k ++ [a]).length (encL (eP x) (k ++ [a])) := by
  simp only [encL_append, List.length_append, encL_cons, encL_nil, List.append_nil, List.length_singleton]
theorem toL_nil2 : ∀ {r : Ns}, r.toL = [] → r = .nil
  | .nil, _ => rfl
  | .cons a b o r, h => by simp [Ns.toL] at h
/-- It is told of these nodes. -/
def GiP (X : FuncId → List AV → AV → List AV → Prop) (p : Pr) (r : Ns) : Prop := ∀ ifs : List Nat, ifs.length + r.sz ≤ 200 → Ev Try.prog X (.fn 86 [.ip (prR p), .im r.toL.length (encN r), .im ifs.length (encL (eP p.body) ifs)] (grds p.body (glN p.body r ifs)) [.dead, .dead, .dead])
set_option maxHeartbeats 8000000 in
theorem gBody (p : Pr) (r : Ns) (hok : okN p.body r) (hin : ∀ q : Ns, q.sz < r.sz → okN p.body q → GiP X p q) (ifs : List Nat) (hl : ifs.length + r.sz ≤ 200) {l : List (Nat × Ns × Ns)} (hL : l = r.toL) {c : Code} (hc : Try.f86.body = some c) : WC Try.prog X c (look [(0, .ip (prR p)), (1, .im l.length (encL ndc l)), (2, .im ifs.length (encL (eP p.body) ifs))]) fun ex σ1 => (ex = .normal ∨ ex = .ret) ∧ ∃ az rs σ2, ResL Try.prog σ1 Try.f86.results.toList az ∧ TakeL σ1 az rs σ2 ∧ resOf rs = grds p.body (glN p.body r ifs) ∧ fins 3 σ2 = [.dead, .dead, .dead] ∧ [AV.dead, .dead, .dead].all noRf = true := by
  have hll := Ns.toL_le r
  rw [← hL] at hll
  cases hc
  refine go3 ?_
  refine WC.loopS (S := Nat × Ns × List (Nat × List Nat)) (fun s => [(0, .ip (prR p)), (2, .im ifs.length (encL (eP p.body) ifs)), (7, grds p.body s.2.2), (13, .im l.length (encL ndc l)), (14, i64 l.length), (15, i64 s.1)]) (fun s => l.drop s.1 = s.2.1.toL ∧ okN p.body s.2.1 ∧ s.2.1.sz ≤ r.sz ∧ s.2.2 ++ glN p.body s.2.1 ifs = glN p.body r ifs) (fun s => l.length - s.1) (0, r, []) (.cons rfl (.cons rfl (.cons rfl (.cons rfl (.cons rfl (.cons rfl .nil)))))) ⟨hL, hok, Nat.le_refl _, rfl⟩ ?_
  rintro ⟨i, q, L⟩ ⟨g1, g2, g3, g4⟩
  dsimp only at g1 g2 g3 g4 ⊢
  have hlen := congrArg List.length g4
  rw [List.length_append, glN_len, glN_len] at hlen
  refine go3 ?_
  refine WO.cmp rfl rfl rfl rfl rfl (fun h3 => ?_) (fun h3 => ?_)
  · cases q with
    | nil =>
      have := congrArg List.length g1
      simp only [Ns.toL, List.length_drop, List.length_nil] at this; omega
    | cons a b o q =>
      obtain ⟨hi, hgd, hdr⟩ := drop_cons_getD (0, .nil, .nil) (show l.drop i = (a, b, o) :: q.toL from g1)
      obtain ⟨ha, hb, ho, hq⟩ := g2
      simp only [Ns.sz] at g3 hlen
      have hop : opA p.body a = (p.body.getD a zst).op := rfl
      have eG' : eG p.body (a, ifs) = [.ip (stR (p.body.getD a zst) ++ encL stR (p.body.drop (a + 1))), .im ifs.length (encL (eP p.body) ifs)] := rfl
      refine go3 ?_
      refine WO.ixN (f := ndc) (0, .nil, .nil) rfl rfl rfl hi rfl ?_
      rw [hgd]
      refine go3 ?_
      refine WC.regionDd ⟨[[], [0], [0, 1], [0, 1, 2], [], [4], [0, 1, 2, 3, 4, 5], [0, 1, 2, 3, 4, 5, 6]], [0, 1, 2, 3, 4, 5, 6], [], [19, 20, 21, 22, 23, 24, 25], [0, 1, 2, 3, 4, 5, 6, 7], [([23, 24], [23, 24], false), ([23, 24], [23, 24], false), ([23, 24], [23, 24], false), ([23, 24], [23, 24], false), ([19, 20, 21, 22], [19, 20, 21, 22], false), ([19, 20, 21, 22], [19, 20, 21, 22], false), ([], [], false), ([], [], false)]⟩ (by kernel_rfl) ?_
      refine go3 ?_
      refine WD.q rfl rfl rfl rfl rfl (QE.ixN (f := stR) zst rfl rfl ha) rfl rfl rfl ?_
      refine go3 ?_
      refine WO.bld (cs := eG p.body (a, ifs)) rfl rfl rfl rfl ?_
      refine WO.b1A rfl rfl rfl rfl rfl rfl rfl rfl ?_
      refine WO.hard (r := 30) (p := []) (x := .ow 115 2 1 (eG p.body (a, ifs))) (y := .im 1 (eG p.body (a, ifs))) rfl rfl rfl ?_
      refine WO.apVI rfl rfl rfl (encL_length _) rfl rfl rfl (by unfold maxLen; omega) (by omega) rfl ?_
      rw [grd_app1]
      refine WO.cln 7 ?_
      refine go3 ?_
      obtain ⟨K, hK⟩ : ∃ K, K = if opA p.body a = 2 then ifs ++ [a] else ifs := ⟨_, rfl⟩
      have hKl : K.length ≤ ifs.length + 1 := by rw [hK]; split <;> simp
      have cb := hin b (by omega) hb K (by omega)
      have co := hin o (by omega) ho K (by omega)
      simp only [glN] at g4
      rw [← hK] at g4
      by_cases h2 : (p.body.getD a zst).op = 2
      · rw [hop, if_pos h2] at hK
        refine WO.q rfl (QE.cmpT rfl rfl rfl h2) rfl rfl ?_
        refine go3 ?_
        refine WO.apI (cs := []) rfl rfl rfl rfl rfl (encL_length _) rfl (by unfold maxLen; omega) (by omega) rfl ?_
        rw [List.nil_append, Nat.zero_add]
        refine go3 ?_
        refine WO.bsA (us := eP p.body a) (cs := eP p.body a) rfl rfl rfl rfl rfl (by kernel_rfl) rfl ?_
        refine WO.hard (r := 42) (p := []) (x := .ow 112 1 1 (eP p.body a)) (y := .im 1 (eP p.body a)) rfl rfl rfl ?_
        refine WO.apI rfl rfl rfl (encL_length _) rfl rfl rfl (by unfold maxLen; omega) (by omega) rfl ?_
        rw [ptr_app, ← hK]
        refine WO.hard (r := 43) (p := []) (x := .ow 112 1 K.length (encL (eP p.body) K)) (y := .im K.length (encL (eP p.body) K)) rfl rfl (by simp only [setN, Eng.hard, hardL_pl (encL_pl (f := eP p.body) _)]) ?_
        refine go3 ?_
        refine WO.call rfl rfl rfl cb rfl rfl ?_
        refine WO.apVM rfl rfl rfl (encL_length _) rfl rfl (encL_length _) rfl rfl (by simp only [List.length_append, List.length_singleton, glN_len]; unfold maxLen; omega) (by simp only [List.length_append, List.length_singleton, glN_len]; omega) rfl ?_
        rw [grd_app]
        refine WO.cln 7 ?_
        refine go3 ?_
        refine WO.call rfl rfl rfl co rfl rfl ?_
        refine WO.apVM rfl rfl rfl (encL_length _) rfl rfl (encL_length _) rfl rfl (by simp only [List.length_append, List.length_singleton, glN_len]; unfold maxLen; omega) (by simp only [List.length_append, List.length_singleton, glN_len]; omega) rfl ?_
        rw [grd_app]
        refine WO.cln 7 ?_
        refine go3 ?_
        exact lpK.mk (i + 1, q, L ++ [(a, ifs)] ++ glN p.body b K ++ glN p.body o K) (.cons rfl (.cons rfl (.cons rfl (.cons rfl (.cons rfl (.cons rfl .nil)))))) ⟨hdr, hq, by dsimp only; omega, by dsimp only; rw [← g4]; simp⟩ (show l.length - (i + 1) < l.length - i by omega)
      · rw [hop, if_neg h2] at hK
        subst hK
        refine WO.q rfl (QE.cmpF rfl rfl rfl h2) rfl rfl ?_
        refine go3 ?_
        refine WO.call rfl rfl rfl cb rfl rfl ?_
        refine WO.apVM rfl rfl rfl (encL_length _) rfl rfl (encL_length _) rfl rfl (by simp only [List.length_append, List.length_singleton, glN_len]; unfold maxLen; omega) (by simp only [List.length_append, List.length_singleton, glN_len]; omega) rfl ?_
        rw [grd_app]
        refine WO.cln 7 ?_
        refine go3 ?_
        refine WO.call rfl rfl rfl co rfl rfl ?_
        refine WO.apVM rfl rfl rfl (encL_length _) rfl rfl (encL_length _) rfl rfl (by simp only [List.length_append, List.length_singleton, glN_len]; unfold maxLen; omega) (by simp only [List.length_append, List.length_singleton, glN_len]; omega) rfl ?_
        rw [grd_app]
        refine WO.cln 7 ?_
        refine go3 ?_
        exact lpK.mk (i + 1, q, L ++ [(a, K)] ++ glN p.body b K ++ glN p.body o K) (.cons rfl (.cons rfl (.cons rfl (.cons rfl (.cons rfl (.cons rfl .nil)))))) ⟨hdr, hq, by dsimp only; omega, by dsimp only; rw [← g4]; simp⟩ (show l.length - (i + 1) < l.length - i by omega)
  · have : q = .nil := toL_nil2 (by rw [← g1]; exact List.drop_of_length_le (by omega))
    subst this
    simp only [glN, List.append_nil] at g4
    rw [← g4]
    refine go3 ?_
    exact retO rfl rfl (encL_length _) rfl rfl rfl
theorem guardedIn (p : Pr) : ∀ (k : Nat) (r : Ns), r.sz ≤ k → okN p.body r → GiP X p r := by
  intro k
  induction k with
  | zero =>
    intro r hk hok ifs hl
    have h := gBody (X := X) p r hok (fun q hq _ => by omega) ifs hl rfl rfl
    rw [← encN_eq] at h
    exact Ev.fnW (env := [(0, .ip (prR p)), (1, .im r.toL.length (encN r)), (2, .im ifs.length (encL (eP p.body) ifs))]) Try.func86 rfl nm_impl_guardedIn rfl rfl (by kernel_rfl) (.cons rfl (.cons rfl (.cons rfl .nil))) h
  | succ k ih =>
    intro r hk hok ifs hl
    have h := gBody (X := X) p r hok (fun q hq hqo => ih q (by omega) hqo) ifs hl rfl rfl
    rw [← encN_eq] at h
    exact Ev.fnW (env := [(0, .ip (prR p)), (1, .im r.toL.length (encN r)), (2, .im ifs.length (encL (eP p.body) ifs))]) Try.func86 rfl nm_impl_guardedIn rfl rfl (by kernel_rfl) (.cons rfl (.cons rfl (.cons rfl .nil))) h
theorem guardedTop (p : Pr) (r : Ns) (hok : okN p.body r) (hl : r.sz ≤ 200) : Ev Try.prog X (.fn 86 [.ip (prR p), .im r.toL.length (encL ndc r.toL), .nl] (grds p.body (glN p.body r [])) [.dead, .dead, .dead]) := by
  have h := gBody (X := X) p r hok (fun q _ hq => guardedIn p _ q (Nat.le_refl _) hq) [] (by simpa using hl) rfl rfl
  refine Ev.fnW (env := [(0, .ip (prR p)), (1, .im r.toL.length (encL ndc r.toL)), (2, .nl)]) Try.func86 rfl nm_impl_guardedIn rfl rfl (by kernel_rfl) (.cons rfl (.cons rfl (.cons rfl .nil))) ?_
  obtain ⟨ex, σ2, h1, h2⟩ := h
  refine ⟨ex, σ2, .cast (r := 2) (p := []) (x := .im 0 []) rfl .im ?_, h2⟩
  have e : setS (look [(0, .ip (prR p)), (1, .im r.toL.length (encL ndc r.toL)), (2, .nl)]) 2 [] (.im 0 []) = look ((2, .im 0 []) :: [(0, .ip (prR p)), (1, .im r.toL.length (encL ndc r.toL)), (2, .nl)]) := by rw [setS_look]; rfl
  rw [e]
  refine .drop (fun t => ?_) h1
  right
  by_cases e0 : t = 0
  · subst e0; rfl
  · by_cases e1 : t = 1
    · subst e1; rfl
    · by_cases e2 : t = 2
      · subst e2; rfl
      · simp only [look, show Nat.beq 0 t = false from by cases h : Nat.beq 0 t; rfl; exact absurd (Nat.eq_of_beq_eq_true h).symm e0, show Nat.beq 1 t = false from by cases h : Nat.beq 1 t; rfl; exact absurd (Nat.eq_of_beq_eq_true h).symm e1, show Nat.beq 2 t = false from by cases h : Nat.beq 2 t; rfl; exact absurd (Nat.eq_of_beq_eq_true h).symm e2, cond_false]
end Go.Eng.C
