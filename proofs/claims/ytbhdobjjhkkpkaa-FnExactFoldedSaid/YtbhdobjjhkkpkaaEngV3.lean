/- Contracts of functions, by the engine: whole programs as laws read, copy, compare and mark them. -/
import Derived.Test.YtbhdobjjhkkpkaaEngV2
namespace Go.Eng.C
open Go Go.Eng Go.RowKit Go.Proofs
set_option linter.unusedVariables false
set_option linter.unusedSimpArgs false
set_option maxRecDepth 10000
variable {X : FuncId → List AV → AV → List AV → Prop}
theorem eqStmtS (a b : List St) (hl : a.length ≤ 1152921504606846976) (hs : ∀ s ∈ a, s.pl.length ≤ 1152921504606846976 ∧ s.ex.length ≤ 1152921504606846976) {r : Bool} (hr : r = true ↔ a = b) : Ev Try.prog X (.fn 78 [.im a.length (encL stR a), .im b.length (encL stR b)] (bl r) [.dead, .dead]) := by
  refine Ev.fnW (env := [(0, .im a.length (encL stR a)), (1, .im b.length (encL stR b))]) Try.func78 rfl nm_laws_eqStmtS rfl rfl (by kernel_rfl) (.cons rfl (.cons rfl .nil)) ?_
  refine go3 ?_
  refine WO.cmp rfl rfl rfl rfl rfl (fun h => ?_) (fun h => ?_)
  · refine go3 ?_
    exact retV rfl (by
      have : a ≠ b := by rintro rfl; exact h rfl
      cases r <;> simp_all) rfl rfl
  have h : a.length = b.length := by omega
  refine go3 ?_
  refine WC.loopS (S := Nat) (fun i => [(0, .im a.length (encL stR a)), (1, .im b.length (encL stR b)), (5, i64 i)]) (fun i => i ≤ a.length ∧ ∀ j < i, a.getD j zst = b.getD j zst) (fun i => a.length - i) 0 (.cons rfl (.cons rfl (.cons rfl .nil))) ⟨by simp, by simp⟩ ?_
  rintro i ⟨h1, h2⟩
  refine go3 ?_
  refine WO.cmp rfl rfl rfl rfl rfl (fun h3 => ?_) (fun h3 => ?_)
  · have hi : i < a.length := by omega
    have hi2 : i < b.length := by omega
    have hm : a.getD i zst ∈ a := by simp [List.getD_eq_getElem?_getD, hi]
    obtain ⟨k1, k2⟩ := hs _ hm
    obtain ⟨q, hq⟩ : ∃ q : Bool, q = true ↔ a.getD i zst = b.getD i zst := by
      by_cases he : a.getD i zst = b.getD i zst
      · exact ⟨true, by simp only [he]⟩
      · exact ⟨false, by simp only [he]; simp⟩
    have c1 := eqStmt (X := X) (a.getD i zst) (b.getD i zst) k1 k2 hq
    refine go3 ?_
    refine WC.regionDd ⟨[[], [], [0, 1], [0, 1, 2], [], [], [4, 5], [4, 5, 6], [0, 1, 2, 3, 4, 5, 6, 7], [0, 1, 2, 3, 4, 5, 6, 7, 8]], [0, 1, 2, 3, 4, 5, 6, 7, 9], [], [17, 18, 19, 20, 21, 22, 23, 24, 26], [0, 1, 2, 3, 4, 5, 6, 7, 8, 9], [([18, 21, 22, 23, 24], [18, 21, 22, 23, 24], false), ([17, 21, 22, 23, 24], [17, 21, 22, 23, 24], false), ([21, 22, 23, 24], [21, 22, 23, 24], false), ([21, 22, 23, 24], [21, 22, 23, 24], false), ([17, 18, 19, 20, 22], [17, 18, 19, 20, 22], false), ([17, 18, 19, 20, 21], [17, 18, 19, 20, 21], false), ([17, 18, 19, 20], [17, 18, 19, 20], false), ([17, 18, 19, 20], [17, 18, 19, 20], false), ([], [], false), ([], [], false)]⟩ (by kernel_rfl) ?_
    refine go3 ?_
    refine WD.q rfl rfl rfl rfl rfl (QE.ixN (f := stR) zst rfl rfl hi) rfl rfl rfl ?_
    refine WD.q rfl rfl rfl rfl rfl (QE.ldIA' rfl rfl) rfl rfl rfl ?_
    refine go3 ?_
    refine WD.q rfl rfl rfl rfl rfl (QE.ixN (f := stR) zst rfl rfl hi2) rfl rfl rfl ?_
    refine WD.q rfl rfl rfl rfl rfl (QE.ldIA' rfl rfl) rfl rfl rfl ?_
    refine go3 ?_
    first | refine WD.q rfl rfl rfl rfl rfl (QE.call rfl rfl c1) rfl rfl rfl ?_ | refine WO.call rfl rfl rfl c1 rfl rfl ?_
    cases q with
    | true =>
      refine go3 ?_
      refine lpK.mk (i + 1) (.cons rfl (.cons rfl (.cons rfl .nil))) ⟨by omega, ?_⟩ (by omega)
      intro j hj
      by_cases e : j = i
      · subst e; exact hq.1 rfl
      · exact h2 j (by omega)
    | false =>
      refine go3 ?_
      exact retV rfl (by
        have : a ≠ b := by
          rintro rfl
          exact absurd (hq.2 rfl) (by simp)
        cases r <;> simp_all) rfl rfl
  · refine go3 ?_
    exact retV rfl (by
      have : a = b := getD_ext h (fun j hj => h2 j (by omega))
      cases r <;> simp_all) rfl rfl
/-- What is left of a size, or -1. -/
def szN (n : Nat) (left : Int) : Int := if left - n < 0 then -1 else left - n
def szSt (s : St) (left : Int) : Int := if left - s.pl.length < 0 then -1 else szN s.ex.length (left - s.pl.length)
def szSL : List St → Int → Int
  | [], m => m
  | s :: l, m => if szSt s m < 0 then -1 else szSL l (szSt s m)
theorem szSt_le {s : St} {m : Int} (h : 0 ≤ szSt s m) : szSt s m ≤ m ∧ (s.pl.length : Int) ≤ m ∧ (s.ex.length : Int) ≤ m := by
  unfold szSt szN at h ⊢
  split at h
  · omega
  · rename_i h1
    rw [if_neg h1]
    split at h
    · omega
    · rename_i h2
      rw [if_neg h2]; omega
theorem szSL_le : ∀ {l : List St} {m : Int}, 0 ≤ szSL l m → szSL l m ≤ m ∧ ∀ s ∈ l, (s.pl.length : Int) ≤ m ∧ (s.ex.length : Int) ≤ m
  | [], m, h => ⟨Int.le_refl _, by simp⟩
  | s :: l, m, h => by
    simp only [szSL] at h ⊢
    split at h
    · omega
    · rename_i h1
      rw [if_neg h1]
      obtain ⟨a1, a2, a3⟩ := szSt_le (s := s) (m := m) (by omega)
      obtain ⟨b1, b2⟩ := szSL_le (l := l) h
      refine ⟨by omega, fun x hx => ?_⟩
      rcases List.mem_cons.1 hx with rfl | hx
      · exact ⟨a2, a3⟩
      · have := b2 x hx; omega
theorem szStmt (s : St) (left : Int) (h0 : 0 ≤ left) (h1 : left ≤ 4611686018427387904) (hp : s.pl.length ≤ 9223372036854775807) (he : s.ex.length ≤ 9223372036854775807) : Ev Try.prog X (.fn 136 [.ag (stR s), i64 left] (i64 (szSt s left)) [.dead, .dead]) := by
  refine Ev.fnW (env := [(0, .ag (stR s)), (1, i64 left)]) Try.func136 rfl nm_laws_szStmt rfl rfl (by kernel_rfl) (.cons rfl (.cons rfl .nil)) ?_
  have c1 := szTermS (X := X) s.pl.length (encL tm s.pl) left h0 h1 hp
  refine go3 ?_
  refine WO.call rfl rfl rfl c1 rfl rfl ?_
  by_cases h : left - s.pl.length < 0
  · rw [if_pos h]
    refine go3 ?_
    exact retV rfl (by simp only [szSt, if_pos h]) rfl rfl
  · rw [if_neg h]
    have c2 := szTermS (X := X) s.ex.length (encL tm s.ex) (left - s.pl.length) (by omega) (by omega) he
    refine go3 ?_
    refine WO.call rfl rfl rfl c2 rfl rfl ?_
    by_cases h2 : left - s.pl.length - s.ex.length < 0
    · rw [if_pos h2]
      refine go3 ?_
      exact retV rfl (by simp only [szSt, szN, if_neg h, if_pos h2]) rfl rfl
    · rw [if_neg h2]
      refine go3 ?_
      exact retV rfl (by simp only [szSt, szN, if_neg h, if_neg h2]) rfl rfl
theorem szStmtS (l : List St) (left : Int) (h0 : 0 ≤ left) (h1 : left ≤ 4611686018427387904) (hl : l.length ≤ 9223372036854775807) (hs : ∀ s ∈ l, s.pl.length ≤ 9223372036854775807 ∧ s.ex.length ≤ 9223372036854775807) : Ev Try.prog X (.fn 65 [.im l.length (encL stR l), i64 left] (i64 (if left - l.length < 0 then -1 else szSL l (left - l.length))) [.dead, .dead]) := by
  refine Ev.fnW (env := [(0, .im l.length (encL stR l)), (1, i64 left)]) Try.func65 rfl nm_laws_szStmtS rfl rfl (by kernel_rfl) (.cons rfl (.cons rfl .nil)) ?_
  refine go3 ?_
  refine WO.cmp rfl rfl rfl rfl rfl (fun h => ?_) (fun h => ?_)
  · refine go3 ?_
    exact retV rfl (by rw [if_pos h]) rfl rfl
  rw [if_neg h]
  refine go3 ?_
  refine WC.loopS (S := Nat × Int) (fun s => [(0, .im l.length (encL stR l)), (1, i64 s.2), (5, i64 s.1)]) (fun s => s.1 ≤ l.length ∧ 0 ≤ s.2 ∧ s.2 ≤ left ∧ szSL (l.drop s.1) s.2 = szSL l (left - l.length)) (fun s => l.length - s.1) (0, left - l.length) (.cons rfl (.cons rfl (.cons rfl .nil))) ⟨Nat.zero_le _, by dsimp only; omega, by dsimp only; omega, rfl⟩ ?_
  rintro ⟨i, m⟩ ⟨g1, g2, g3, g4⟩
  dsimp only at g1 g2 g3 g4 ⊢
  refine go3 ?_
  refine WO.cmp rfl rfl rfl rfl rfl (fun h3 => ?_) (fun h3 => ?_)
  · have hi : i < l.length := by omega
    have hm : l.getD i zst ∈ l := by simp [List.getD_eq_getElem?_getD, hi]
    obtain ⟨k1, k2⟩ := hs _ hm
    rw [drop_getD hi zst] at g4
    refine go3 ?_
    refine WO.ixN (f := stR) zst rfl rfl rfl hi rfl ?_
    generalize l.getD i zst = s at *
    refine go3 ?_
    refine WO.call rfl rfl rfl (szStmt s m g2 (by omega) k1 k2) rfl rfl ?_
    simp only [szSL] at g4
    by_cases h4 : szSt s m < 0
    · rw [if_pos h4] at g4
      refine go3 ?_
      exact retV rfl (by rw [← g4]) rfl rfl
    · rw [if_neg h4] at g4
      have hle := (szSt_le (s := s) (m := m) (by omega)).1
      generalize szSt s m = m' at *
      refine go3 ?_
      exact lpK.mk (i + 1, m') (.cons rfl (.cons rfl (.cons rfl .nil))) ⟨hi, by dsimp only; omega, by dsimp only; omega, g4⟩ (show l.length - (i + 1) < l.length - i by omega)
  · have : i = l.length := by omega
    subst this
    rw [List.drop_length] at g4
    simp only [szSL] at g4
    refine go3 ?_
    exact retV rfl (by rw [← g4]) rfl rfl
/-- What is left of a size by a program, or -1. -/
theorem szProg (p : Pr) (left : Int) (h0 : 0 ≤ left) (h1 : left ≤ 1048576) (k1 : p.lows.length ≤ 9223372036854775807) (k2 : p.secs.length ≤ 9223372036854775807) (k3 : p.arrs.length ≤ 9223372036854775807) (k4 : p.body.length ≤ 9223372036854775807) (k5 : ∀ s ∈ p.body, s.pl.length ≤ 9223372036854775807 ∧ s.ex.length ≤ 9223372036854775807) :
    ∃ r : Int, Ev Try.prog X (.fn 13 [.ag (prR p), i64 left] (i64 r) [.dead, .dead]) ∧ r ≤ left ∧ (0 ≤ r → PB p) := by
  have c1 := szInputS (X := X) p.lows.length (encL inp p.lows) left h0 (by omega) k1
  have start : ∀ r : Int, r = r := fun _ => rfl
  by_cases a1 : left - p.lows.length < 0
  · rw [if_pos a1] at c1
    refine ⟨-1, ?_, by omega, by omega⟩
    refine Ev.fnW (env := [(0, .ag (prR p)), (1, i64 left)]) Try.func13 rfl nm_laws_szProg rfl rfl (by kernel_rfl) (.cons rfl (.cons rfl .nil)) ?_
    refine go3 ?_
    refine WO.call rfl rfl rfl c1 rfl rfl ?_
    refine go3 ?_
    exact retV rfl rfl rfl rfl
  rw [if_neg a1] at c1
  generalize hm1 : left - p.lows.length = m1 at *
  have c2 := szInputS (X := X) p.secs.length (encL inp p.secs) m1 (by omega) (by omega) k2
  by_cases a2 : m1 - p.secs.length < 0
  · rw [if_pos a2] at c2
    refine ⟨-1, ?_, by omega, by omega⟩
    refine Ev.fnW (env := [(0, .ag (prR p)), (1, i64 left)]) Try.func13 rfl nm_laws_szProg rfl rfl (by kernel_rfl) (.cons rfl (.cons rfl .nil)) ?_
    refine go3 ?_
    refine WO.call rfl rfl rfl c1 rfl rfl ?_
    refine go3 ?_
    refine WO.call rfl rfl rfl c2 rfl rfl ?_
    refine go3 ?_
    exact retV rfl rfl rfl rfl
  rw [if_neg a2] at c2
  generalize hm2 : m1 - p.secs.length = m2 at *
  have c3 := szInt64S (X := X) p.arrs.length (encL eI p.arrs) m2 (by omega) (by omega) k3
  by_cases a3 : m2 - p.arrs.length < 0
  · rw [if_pos a3] at c3
    refine ⟨-1, ?_, by omega, by omega⟩
    refine Ev.fnW (env := [(0, .ag (prR p)), (1, i64 left)]) Try.func13 rfl nm_laws_szProg rfl rfl (by kernel_rfl) (.cons rfl (.cons rfl .nil)) ?_
    refine go3 ?_
    refine WO.call rfl rfl rfl c1 rfl rfl ?_
    refine go3 ?_
    refine WO.call rfl rfl rfl c2 rfl rfl ?_
    refine go3 ?_
    refine WO.call rfl rfl rfl c3 rfl rfl ?_
    refine go3 ?_
    exact retV rfl rfl rfl rfl
  rw [if_neg a3] at c3
  generalize hm3 : m2 - p.arrs.length = m3 at *
  have c4 := szStmtS (X := X) p.body m3 (by omega) (by omega) k4 k5
  obtain ⟨R, hR⟩ : ∃ R : Int, R = if m3 - p.body.length < 0 then -1 else szSL p.body (m3 - p.body.length) := ⟨_, rfl⟩
  rw [← hR] at c4
  by_cases a4 : R < 0
  · refine ⟨-1, ?_, by omega, by omega⟩
    refine Ev.fnW (env := [(0, .ag (prR p)), (1, i64 left)]) Try.func13 rfl nm_laws_szProg rfl rfl (by kernel_rfl) (.cons rfl (.cons rfl .nil)) ?_
    refine go3 ?_
    refine WO.call rfl rfl rfl c1 rfl rfl ?_
    refine go3 ?_
    refine WO.call rfl rfl rfl c2 rfl rfl ?_
    refine go3 ?_
    refine WO.call rfl rfl rfl c3 rfl rfl ?_
    refine go3 ?_
    refine WO.call rfl rfl rfl c4 rfl rfl ?_
    refine go3 ?_
    exact retV rfl rfl rfl rfl
  · have hb : ¬ m3 - p.body.length < 0 := fun h => by rw [if_pos h] at hR; omega
    rw [if_neg hb] at hR
    obtain ⟨s1, s2⟩ := szSL_le (l := p.body) (m := m3 - p.body.length) (by omega)
    refine ⟨R, ?_, by omega, fun _ => ⟨by omega, by omega, by omega, by omega, fun s hs => by have := s2 s hs; omega⟩⟩
    refine Ev.fnW (env := [(0, .ag (prR p)), (1, i64 left)]) Try.func13 rfl nm_laws_szProg rfl rfl (by kernel_rfl) (.cons rfl (.cons rfl .nil)) ?_
    refine go3 ?_
    refine WO.call rfl rfl rfl c1 rfl rfl ?_
    refine go3 ?_
    refine WO.call rfl rfl rfl c2 rfl rfl ?_
    refine go3 ?_
    refine WO.call rfl rfl rfl c3 rfl rfl ?_
    refine go3 ?_
    refine WO.call rfl rfl rfl c4 rfl rfl ?_
    refine go3 ?_
    exact retV rfl rfl rfl rfl
/-- A program, owned. -/
def prO (p : Pr) : List AV := [i64 p.w, .ow 143 2 p.lows.length (encL inp p.lows), .ow 143 2 p.secs.length (encL inp p.secs), i64 p.temps, .ow 2 1 p.arrs.length (encL eI p.arrs), .ow 122 4 p.body.length (encL stO p.body)]
theorem whL_prO (p : Pr) : whL (prO p) = true := by simp [prO, whL, whA, encL_length]
theorem toProg (p : Pr) (hB : PB p) : Ev Try.prog X (.fn 17 [.ag (prR p)] (.ag (prO p)) [.dead]) := by
  obtain ⟨b1, b2, b3, b4, b5⟩ := hB
  refine Ev.fnW (env := [(0, .ag (prR p))]) Try.func17 rfl nm_laws_toProg rfl rfl (by kernel_rfl) (.cons rfl .nil) ?_
  refine go3 ?_
  refine WO.st (cs' := [i64 p.w, .nl, .nl, i64 0, .nl, .nl]) rfl rfl rfl rfl rfl rfl rfl ?_
  refine go3 ?_
  refine WO.call rfl rfl rfl (toInputS p.lows (by omega)) rfl rfl ?_
  refine go3 ?_
  refine WO.stOp (cs' := [i64 p.w, .ow 143 2 p.lows.length (encL inp p.lows), .nl, i64 0, .nl, .nl]) rfl rfl rfl rfl (encL_length _) rfl rfl rfl rfl rfl ?_
  refine go3 ?_
  refine WO.call rfl rfl rfl (toInputS p.secs (by omega)) rfl rfl ?_
  refine go3 ?_
  refine WO.stOp (cs' := [i64 p.w, .ow 143 2 p.lows.length (encL inp p.lows), .ow 143 2 p.secs.length (encL inp p.secs), i64 0, .nl, .nl]) rfl rfl rfl rfl (encL_length _) rfl rfl rfl rfl rfl ?_
  refine go3 ?_
  refine WO.st (cs' := [i64 p.w, .ow 143 2 p.lows.length (encL inp p.lows), .ow 143 2 p.secs.length (encL inp p.secs), i64 p.temps, .nl, .nl]) rfl rfl rfl rfl rfl rfl rfl ?_
  refine go3 ?_
  refine WO.call rfl rfl rfl (toInt64S p.arrs (by omega)) rfl rfl ?_
  refine go3 ?_
  refine WO.stOp (cs' := [i64 p.w, .ow 143 2 p.lows.length (encL inp p.lows), .ow 143 2 p.secs.length (encL inp p.secs), i64 p.temps, .ow 2 1 p.arrs.length (encL eI p.arrs), .nl]) rfl rfl rfl rfl (encL_length _) rfl rfl rfl rfl rfl ?_
  refine go3 ?_
  refine WO.call rfl rfl rfl (toStmtS p.body b4 b5) rfl rfl ?_
  refine go3 ?_
  refine WO.stOp (cs' := prO p) rfl rfl rfl rfl (encL_length _) rfl rfl rfl rfl rfl ?_
  refine go3 ?_
  refine WO.q rfl (QE.ldG rfl rfl rfl (L := [i64 p.w, .vw 3 [1] 0 p.lows.length, .vw 3 [2] 0 p.secs.length, i64 p.temps, .vw 3 [4] 0 p.arrs.length, .vw 3 [5] 0 p.body.length]) rfl) rfl rfl ?_
  refine WO.stG (env1 := (3, .op [i64 p.w, .dead, .dead, i64 p.temps, .dead, .dead]) :: _) (vs := prO p) rfl rfl rfl (.ag (takeVr (r := 3) (cs := prO p) rfl (whL_prO p)) (.nil _)) rfl rfl rfl rfl ?_
  refine go3 ?_
  exact retCG rfl rfl rfl (whL_prO p) rfl rfl rfl
end Go.Eng.C
