/- Contracts of functions, by the engine: runs, of the reference: statements from a place up to another one. -/
import Derived.Test.YtbhdobjjhkkpkaaEngRd
namespace Go.Eng.C
open Go Go.Eng Go.RowKit Go.Proofs
set_option linter.unusedVariables false
set_option linter.unusedSimpArgs false
set_option maxRecDepth 10000
variable {X : FuncId → List AV → AV → List AV → Prop}
section
variable {p : Pr} {t : St} {fb fo : Mc → Rn} {ct : Int} {s : Mc}
theorem stp_ifT (h : t.op = 2) (h1 : (rk p.w s.v t.ex []).2 ≠ 0) : stpN p t fb fo ct s = (s, 2, (rk p.w s.v t.ex []).2) := by
  unfold stpN
  rw [if_neg (by omega), if_neg (by omega), if_neg (by omega), if_neg (by omega), if_pos h1]
theorem stp_if1 (h : t.op = 2) (h1 : (rk p.w s.v t.ex []).2 = 0) (h2 : (rk p.w s.v t.ex []).1 ≠ 0) : stpN p t fb fo ct s = fb s := by
  unfold stpN
  rw [if_neg (by omega), if_neg (by omega), if_neg (by omega), if_neg (by omega), if_neg (by omega), if_neg (by omega), if_neg (by omega), if_pos h2]
theorem stp_if0 (h : t.op = 2) (h1 : (rk p.w s.v t.ex []).2 = 0) (h2 : (rk p.w s.v t.ex []).1 = 0) : stpN p t fb fo ct s = fo s := by
  unfold stpN
  rw [if_neg (by omega), if_neg (by omega), if_neg (by omega), if_neg (by omega), if_neg (by omega), if_neg (by omega), if_neg (by omega), if_neg (by omega)]
theorem stp_loop (h : t.op = 5) : stpN p t fb fo ct s = times fb t.n.toNat s := by
  unfold stpN
  rw [if_neg (by omega), if_neg (by omega), if_pos h]
theorem stp_tryC (h : t.op = 8) (h1 : (fb s).2.1 = 1) (h2 : (fb s).2.2 = ct) : stpN p t fb fo ct s = fo (fb s).1 := by
  unfold stpN
  rw [if_neg (by omega), if_neg (by omega), if_neg (by omega), if_pos h, if_pos ⟨h1, h2⟩]
theorem stp_tryN (h : t.op = 8) (h1 : ¬ ((fb s).2.1 = 1 ∧ (fb s).2.2 = ct)) : stpN p t fb fo ct s = fb s := by
  unfold stpN
  rw [if_neg (by omega), if_neg (by omega), if_neg (by omega), if_pos h, if_neg h1]
end
/-- What holds between statements. -/
structure L6I (p : Pr) (z : Nat) (Q : Rn) (i : Nat) (r : Ns) (m : Mc) (e c : Int) (st : Bool) : Prop where
  le : i ≤ z
  go : st = false → e = 0 ∧ c = 0 ∧ Bk p.body i z r ∧ MOk p m ∧ (m.o.length : Int) + stp p.body r ≤ 4000 ∧ runN p r m = Q
  st : st = true → e ≠ 0 ∧ (m, e, c) = Q
theorem L6I.next {p : Pr} {z : Nat} {Q : Rn} {j : Nat} {rr : Ns} {s : Mc} {q1 : Rn} {M : Int} (hj : j ≤ z) (hr : Bk p.body j z rr) (gs : Good p s M q1) (hk : (s.o.length : Int) + (M + stp p.body rr) ≤ 4000) (hrun : (if q1.2.1 ≠ 0 then q1 else runN p rr q1.1) = Q) : L6I p z Q j rr q1.1 q1.2.1 q1.2.2 (decide (q1.2.1 ≠ 0)) ∧ (q1.2.1 ≠ 0 → q1 = Q) := by
  refine ⟨⟨hj, fun h => ?_, fun h => ?_⟩, fun h => ?_⟩
  · have h0 : q1.2.1 = 0 := by simpa using h
    have := gs.l
    rw [if_neg (by omega)] at hrun
    exact ⟨h0, gs.c h0, hr, gs.k, by omega, hrun⟩
  · have h0 : q1.2.1 ≠ 0 := by simpa using h
    rw [if_pos h0] at hrun
    exact ⟨h0, by rw [← hrun]⟩
  · rw [if_pos h] at hrun; exact hrun
theorem L6I.of1 {p : Pr} {z : Nat} {Q : Rn} {j : Nat} {rr : Ns} {T : Rn} {m : Mc} {e c : Int} (h : L6I p z Q j rr T.1 T.2.1 T.2.2 (decide (T.2.1 ≠ 0))) (hT : (m, e, c) = T) (he : e ≠ 0) : L6I p z Q j rr m e c true := by
  subst hT
  rw [decide_eq_true (show (m, e, c).2.1 ≠ 0 from he)] at h
  exact h
theorem L6I.of0 {p : Pr} {z : Nat} {Q : Rn} {j : Nat} {rr : Ns} {T : Rn} {m : Mc} (h : L6I p z Q j rr T.1 T.2.1 T.2.2 (decide (T.2.1 ≠ 0))) (hT : (m, 0, 0) = T) : L6I p z Q j rr m 0 0 false := by
  subst hT
  exact h
/-- What holds between rounds of a loop. -/
structure L6J (p : Pr) (b : Ns) (n : Nat) (T : Rn) (k : Nat) (m : Mc) (e c : Int) (st : Bool) : Prop where
  le : k ≤ n
  go : st = false → e = 0 ∧ c = 0 ∧ MOk p m ∧ (m.o.length : Int) + ((n - k : Nat) : Int) * stp p.body b ≤ 4000 ∧ times (runN p b) (n - k) m = T
  st : st = true → e ≠ 0 ∧ (m, e, c) = T
theorem L6J.next {p : Pr} {b : Ns} {n : Nat} {T : Rn} {k : Nat} {m : Mc} (hk : k < n) (b0 : 0 ≤ stp p.body b) (hl : (m.o.length : Int) + ((n - k : Nat) : Int) * stp p.body b ≤ 4000) (gs : Good p m (stp p.body b) (runN p b m)) (ht : times (runN p b) (n - k) m = T) : L6J p b n T (k + 1) (runN p b m).1 (runN p b m).2.1 (runN p b m).2.2 (decide ((runN p b m).2.1 ≠ 0)) := by
  obtain ⟨j, hj⟩ : ∃ j, n - k = j + 1 := ⟨n - k - 1, by omega⟩
  have hj2 : n - (k + 1) = j := by omega
  rw [hj] at hl ht
  have e : (((j + 1 : Nat) : Int)) * stp p.body b = j * stp p.body b + stp p.body b := by rw [Int.natCast_add, Int.add_mul]; omega
  simp only [times] at ht
  have hgl := gs.l
  refine ⟨hk, fun h => ?_, fun h => ?_⟩
  · have h0 : (runN p b m).2.1 = 0 := by simpa using h
    rw [if_neg (by omega)] at ht
    exact ⟨h0, gs.c h0, gs.k, by rw [hj2]; omega, by rw [hj2]; exact ht⟩
  · have h0 : (runN p b m).2.1 ≠ 0 := by simpa using h
    rw [if_pos h0] at ht
    exact ⟨h0, by rw [← ht]⟩
/-- A run of a part of the body is told. -/
def L6P (X : FuncId → List AV → AV → List AV → Prop) (p : Pr) (a z : Nat) (r : Ns) : Prop := ∀ s : Mc, MOk p s → (s.o.length : Int) + stp p.body r ≤ 4000 → Ev Try.prog X (.fn 161 [.op (l6c p s 0 0 false), i64 a, i64 z] (.tu []) [.op (l6q p (runN p r s)), .dead, .dead])
theorem L6P.at1 {p : Pr} {a z : Nat} {r : Ns} (h : L6P X p (a + 1) z r) {s : Mc} (hs : MOk p s) (hk : (s.o.length : Int) + stp p.body r ≤ 4000) : Ev Try.prog X (.fn 161 [.op (l6c p s 0 0 false), i64 ((a : Int) + 1), i64 z] (.tu []) [.op (l6q p (runN p r s)), .dead, .dead]) := by
  have := h s hs hk
  rwa [show ((a + 1 : Nat) : Int) = (a : Int) + 1 by omega] at this
theorem stp_if2 (x : List St) (a : Nat) (b o r : Ns) (h : opA x a = 2) : stp x (.cons a b o r) = 1 + max (stp x b) (stp x o) + stp x r := by
  simp only [stp]; rw [if_pos h]
theorem stp_lp (x : List St) (a : Nat) (b o r : Ns) (h : opA x a = 5) : stp x (.cons a b o r) = 1 + nA x a * (1 + stp x b) + stp x r := by
  simp only [stp]; rw [if_neg (by omega), if_pos h]
theorem stp_tr (x : List St) (a : Nat) (b o r : Ns) (h : opA x a = 8) : stp x (.cons a b o r) = 1 + (stp x b + stp x o) + stp x r := by
  simp only [stp]; rw [if_neg (by omega), if_neg (by omega), if_pos h]; omega
theorem runN_cons (p : Pr) (a : Nat) (b o r : Ns) (s : Mc) : runN p (.cons a b o r) s = if (stpN p (p.body.getD a zst) (runN p b) (runN p o) (catN p a) s).2.1 ≠ 0 then stpN p (p.body.getD a zst) (runN p b) (runN p o) (catN p a) s else runN p r (stpN p (p.body.getD a zst) (runN p b) (runN p o) (catN p a) s).1 := rfl
set_option maxHeartbeats 40000000 in
theorem l6Run (p : Pr) (hB : PB p) (hp : RP p) (hl : p.body.length ≤ 40) : ∀ (k a z : Nat) (r : Ns), z - a ≤ k → a ≤ p.body.length → Bk p.body a z r → L6P X p a z r := by
  intro k
  induction k using Nat.strongRecOn with
  | ind k ih =>
  intro a z r hk ha hr s hs hks
  have hL := loop_ok hp.s
  have hzl := hr.lt ha
  obtain ⟨Q, hQ⟩ : ∃ Q, Q = runN p r s := ⟨_, rfl⟩
  rw [← hQ]
  refine Ev.fnW (env := [(0, .ad 1000000 [] 0), (1, i64 a), (2, i64 z), (1000000, .op (l6c p s 0 0 false))]) Try.func161 rfl nm_spec_l6Run rfl rfl (by kernel_rfl) (.cons rfl (.cons rfl (.cons rfl (.cons rfl .nil)))) ?_
  refine go3 ?_
  refine WC.loopS (S := Nat × Ns × Mc × Int × Int × Bool) (fun u => [(0, .ad 1000000 [] 0), (2, i64 z), (6, .im p.body.length (encL stR p.body)), (7, i64 u.1), (1000000, .op (l6c p u.2.2.1 u.2.2.2.1 u.2.2.2.2.1 u.2.2.2.2.2))]) (fun u => L6I p z Q u.1 u.2.1 u.2.2.1 u.2.2.2.1 u.2.2.2.2.1 u.2.2.2.2.2 ∧ a ≤ u.1) (fun u => z - u.1) (a, r, s, 0, 0, false) (.cons rfl (.cons rfl (.cons rfl (.cons rfl (.cons rfl .nil))))) ⟨⟨hr.le, fun _ => ⟨rfl, rfl, hr, hs, hks, hQ.symm⟩, fun h => by cases h⟩, Nat.le_refl _⟩ ?_
  clear hks hs hQ hr
  rintro ⟨i, r', s', e, c, st⟩ ⟨g, ga⟩
  dsimp only at g ga ⊢
  have gle := g.le
  cases st with
  | true =>
    obtain ⟨he, hq⟩ := g.st rfl
    rw [← hq, l6q1 p s' c he]
    refine go3 ?_
    refine WO.cmp rfl rfl rfl rfl rfl (fun h3 => ?_) (fun h3 => ?_)
    · refine go3 ?_
      exact ret00 rfl rfl
    · refine go3 ?_
      exact ret00 rfl rfl
  | false =>
  obtain ⟨rfl, rfl, hb, hm, hk2, hrun⟩ := g.go rfl
  clear g
  refine go3 ?_
  refine WO.cmp rfl rfl rfl rfl rfl (fun h3 => ?_) (fun h3 => ?_)
  case refine_2 =>
    have e0 : r' = .nil := by
      cases hb with
      | nil => rfl
      | leaf _ _ _ hr => have := hr.le; omega
      | one _ _ hb _ _ hr => have := hb.le; have := hr.le; omega
      | two _ _ hb ho _ _ hr => have := hb.le; have := ho.le; have := hr.le; omega
    subst e0
    rw [← hrun]
    simp only [runN]
    rw [l6q0]
    refine go3 ?_
    exact ret00 rfl rfl
  have hi : i < p.body.length := by omega
  have ht := hp.at_ hi
  have hopA : opA p.body i = (p.body.getD i zst).op := rfl
  have hnA : nA p.body i = (p.body.getD i zst).n := rfl
  cases hb with
  | nil _ h => omega
  | @leaf _ _ q' h hs hn hr' =>
    have hE : E p.body i = none := by simp [E, hn]
    unfold nestA at hn; unfold stopA at hs
    have hops := stOps ht (by rw [← hopA]; omega)
    have gs := stpN_good hp hi (by omega) (b := .nil) (o := .nil) (by simp [stp]) (by simp [stp]) (runN_good hp .nil trivial) (runN_good hp .nil trivial) (catN p i) s' hm
    have hrr := hr'.le
    rw [stp_cons] at hk2
    rw [runN_cons] at hrun
    have nx := (L6I.next (Q := Q) (by omega) hr' gs (by omega) hrun).1
    have cS := l6Stmt (X := X) p hB hp (p.body.getD i zst) ht (by omega) (runN p .nil) (runN p .nil) (catN p i) s' hm (by have := stp_nn hL hr'.ok; have := stp_nn hL (Bk.leaf h (by unfold stopA; omega) (by unfold nestA; omega) hr').ok; have := stp_nn (r := .cons i .nil .nil .nil) hL ⟨hi, trivial, trivial, trivial⟩; omega)
    rw [hopA] at hn hs
    clear hrun gs
    generalize stpN p (p.body.getD i zst) (runN p .nil) (runN p .nil) (catN p i) s' = q1 at *
    refine go3 ?_
    refine WO.call rfl rfl rfl (l3End1 p.body (by omega) i hi (m := -1) (e := -1) (by rw [hE]; exact ⟨rfl, rfl⟩)) rfl rfl ?_
    refine go3 ?_
    refine WO.ixN (f := stR) zst rfl rfl rfl hi rfl ?_
    refine go3 ?_
    refine WO.ixN (f := stR) zst rfl rfl rfl hi rfl ?_
    refine go3 ?_
    refine WO.callD (xs := [.tmp 46]) rfl rfl rfl rfl rfl cS rfl rfl rfl rfl ?_
    refine go3 ?_
    rw [show (i : Int) + 1 = ((i + 1 : Nat) : Int) by omega]
    exact lpK.mk (i + 1, q', q1.1, q1.2.1, q1.2.2, decide (q1.2.1 ≠ 0)) (.cons rfl (.cons rfl (.cons rfl (.cons rfl (.cons rfl .nil))))) ⟨nx, by dsimp only; omega⟩ (by dsimp only; omega)
  | @one _ n2 _ b q' h hn hb he hE hr' =>
    have hle := hb.le
    have hle2 := hr'.le
    have b0 := stp_nn hL hb.ok
    have q0 := stp_nn hL hr'.ok
    have gb := runN_good hp b hb.gd
    have gs := stpN_good hp hi (by rcases hn with h | h <;> omega) (b := b) (o := .nil) b0 (by simp [stp]) gb (runN_good hp .nil trivial) (catN p i) s' hm
    have cB := ih (n2 - (i + 1)) (by omega) (i + 1) n2 b (Nat.le_refl _) (by omega) hb
    have hk3 := hk2
    rw [stp_cons] at hk2
    have hk2' : (s'.o.length : Int) + (stp p.body (.cons i b .nil .nil) + stp p.body q') ≤ 4000 := by omega
    simp only [runN] at hrun
    have nx := fun q1 (hq : stpN p (p.body.getD i zst) (runN p b) (runN p .nil) (catN p i) s' = q1) => L6I.next (Q := Q) (q1 := q1) (j := n2 + 1) (z := z) (by omega) hr' (hq ▸ gs) hk2' (hq ▸ hrun)
    clear gs hrun hk2 hk2' ih
    refine go3 ?_
    refine WO.call rfl rfl rfl (l3End1 p.body (by omega) i hi (m := -1) (e := n2) (by rw [hE]; exact ⟨rfl, rfl⟩)) rfl rfl ?_
    refine go3 ?_
    refine WO.ixN (f := stR) zst rfl rfl rfl hi rfl ?_
    rcases hn with h2 | h2
    · have h2' := h2
      rw [hopA] at h2'
      have m := (stOk26 (.inl h2')).1 ht
      rw [stp_if2 _ _ _ _ _ h2] at hk3
      simp only [stp] at hk3
      refine go3 ?_
      refine WC.regionDd ⟨[[], [0], [0, 1], [0, 1, 2], [], [4], [4, 5], [4, 5, 6], [], [], [8, 9], [8, 9, 10], [8, 9, 10, 11], [0, 1, 2, 3, 4, 5, 6, 7, 8, 9, 10, 11, 12], [0, 1, 2, 3, 4, 5, 6, 7, 8, 9, 10, 11, 12, 13], [0, 1, 2, 3, 4, 5, 6, 7, 8, 9, 10, 11, 12, 13, 14], [0, 1, 2, 3, 4, 5, 6, 7, 8, 9, 10, 11, 12, 13, 14], [0, 1, 2, 3, 4, 5, 6, 7, 8, 9, 10, 11, 12, 13, 14, 15], [0, 1, 2, 3, 4, 5, 6, 7, 8, 9, 10, 11, 12, 13, 14, 15, 16, 17]], [0, 1, 2, 3, 4, 5, 6, 7, 8, 9, 10, 11, 12, 14, 15, 16, 17], [], [51, 52, 53, 54, 55, 56, 57, 58, 59, 60, 61, 62, 63, 50, 65, 66, 10], [0, 1, 2, 3, 4, 5, 6, 7, 8, 9, 10, 11, 12, 13, 14, 15, 16, 17, 18], [([55, 56, 57, 58, 59, 60, 61, 62, 63], [55, 56, 57, 58, 59, 60, 61, 62, 63], false), ([55, 56, 57, 58, 59, 60, 61, 62, 63], [55, 56, 57, 58, 59, 60, 61, 62, 63], false), ([55, 56, 57, 58, 59, 60, 61, 62, 63], [55, 56, 57, 58, 59, 60, 61, 62, 63], false), ([55, 56, 57, 58, 59, 60, 61, 62, 63], [55, 56, 57, 58, 59, 60, 61, 62, 63], false), ([51, 52, 53, 54, 59, 60, 61, 62, 63], [51, 52, 53, 54, 59, 60, 61, 62, 63], false), ([51, 52, 53, 54, 59, 60, 61, 62, 63], [51, 52, 53, 54, 59, 60, 61, 62, 63], false), ([51, 52, 53, 54, 59, 60, 61, 62, 63], [51, 52, 53, 54, 59, 60, 61, 62, 63], false), ([51, 52, 53, 54, 59, 60, 61, 62, 63], [51, 52, 53, 54, 59, 60, 61, 62, 63], false), ([51, 52, 53, 54, 55, 56, 57, 58, 60], [51, 52, 53, 54, 55, 56, 57, 58, 60], false), ([51, 52, 53, 54, 55, 56, 57, 58, 59], [51, 52, 53, 54, 55, 56, 57, 58, 59], false), ([51, 52, 53, 54, 55, 56, 57, 58], [51, 52, 53, 54, 55, 56, 57, 58], false), ([51, 52, 53, 54, 55, 56, 57, 58], [51, 52, 53, 54, 55, 56, 57, 58], false), ([51, 52, 53, 54, 55, 56, 57, 58], [51, 52, 53, 54, 55, 56, 57, 58], false), ([], [], false), ([], [], false), ([66], [66], false), ([65, 10], [65, 10], false), ([66], [66], false), ([], [], false)]⟩ (by kernel_rfl) ?_
      refine go3 ?_
      refine WD.q rfl rfl rfl rfl rfl (QE.ldGI (i := 0) (L := prR p) rfl rfl rfl rfl) rfl rfl rfl ?_
      refine go3 ?_
      refine WD.q rfl rfl rfl rfl rfl (QE.ldGI (i := 6) (L := envL s') rfl rfl rfl rfl) rfl rfl rfl ?_
      refine go3 ?_
      refine WD.q rfl rfl rfl rfl rfl (QE.ixN (f := stR) zst rfl rfl hi) rfl rfl rfl ?_
      refine go3 ?_
      by_cases tr : (rk p.w s'.v (p.body.getD i zst).ex []).2 = 0
      · refine WO.callF rfl (.ag (FrzL.plains rfl) (frzL6 rfl rfl rfl (.cons (.plain _ rfl) .nil))) (l5vN p s'.v (p.body.getD i zst).ex hB hp m.2.1.2.1 hm.v tr) rfl rfl rfl ?_
        refine go3 ?_
        refine WO.keep (e' := [(0, .ad 1000000 [] 0), (2, i64 z), (6, .im p.body.length (encL stR p.body)), (7, i64 i), (8, i64 (-1)), (9, i64 n2), (10, i64 (rk p.w s'.v (p.body.getD i zst).ex []).1), (67, .ad 1000000 [] 0), (68, i64 0), (1000000, .op (l6c p s' 0 0 false))]) (.cons rfl (.cons rfl (.cons rfl (.cons rfl (.cons rfl (.cons rfl (.cons rfl (.cons rfl (.cons rfl (.cons rfl .nil)))))))))) ?_
        refine WO.callD (xs := [.tmp 68]) rfl rfl rfl rfl rfl (l6Trap0 p s' 0 0 false) rfl rfl rfl rfl ?_
        refine go3 ?_
        by_cases hx : (rk p.w s'.v (p.body.getD i zst).ex []).1 = 0
        · have nx := (nx _ (stp_if0 h2' tr hx)).1
          generalize (rk p.w s'.v (p.body.getD i zst).ex []).1 = x at *
          simp only [runN] at nx
          refine go3 ?_
          rw [show (n2 : Int) + 1 = ((n2 + 1 : Nat) : Int) by omega]
          exact lpK.mk (n2 + 1, q', s', 0, 0, false) (.cons rfl (.cons rfl (.cons rfl (.cons rfl (.cons rfl .nil))))) ⟨nx, by dsimp only; omega⟩ (by dsimp only; omega)
        · have nx := (nx _ (stp_if1 h2' tr hx)).1
          generalize (rk p.w s'.v (p.body.getD i zst).ex []).1 = x at *
          have cb := cB.at1 hm (by omega)
          generalize runN p b s' = q1 at *
          refine go3 ?_
          refine WO.callD (xs := [.tmp 79, .tmp 80]) rfl rfl rfl rfl rfl cb rfl rfl rfl rfl ?_
          refine go3 ?_
          rw [show (n2 : Int) + 1 = ((n2 + 1 : Nat) : Int) by omega]
          exact lpK.mk (n2 + 1, q', q1.1, q1.2.1, q1.2.2, decide (q1.2.1 ≠ 0)) (.cons rfl (.cons rfl (.cons rfl (.cons rfl (.cons rfl .nil))))) ⟨nx, by dsimp only; omega⟩ (by dsimp only; omega)
      · have nq := (nx _ (stp_ifT h2' tr)).2 (show (2 : Int) ≠ 0 by omega)
        refine WO.callF rfl (.ag (FrzL.plains rfl) (frzL6 rfl rfl rfl (.cons (.plain _ rfl) .nil))) (l5vT p s'.v (p.body.getD i zst).ex hB hp m.2.1.2.1 hm.v tr) rfl rfl rfl ?_
        rw [← nq, l6q1 p s' _ (show (2 : Int) ≠ 0 by omega)]
        generalize (rk p.w s'.v (p.body.getD i zst).ex []).2 = tr' at *
        generalize (rp p.w s'.v (p.body.getD i zst).ex []).1 = y at *
        refine go3 ?_
        refine WO.keep (e' := [(0, .ad 1000000 [] 0), (67, .ad 1000000 [] 0), (68, i64 tr'), (1000000, .op (l6c p s' 0 0 false))]) (.cons rfl (.cons rfl (.cons rfl (.cons rfl .nil)))) ?_
        refine WO.callD (xs := [.tmp 68]) rfl rfl rfl rfl rfl (l6Trap1 p s' 0 0 false tr' tr) rfl rfl rfl rfl ?_
        refine go3 ?_
        exact ret00 rfl rfl
    · have h2' := h2
      rw [hopA] at h2'
      have m := (stOk5 h2').1 ht
      rw [stp_lp _ _ _ _ _ h2, hnA] at hk3
      have nx := (nx _ (stp_loop h2')).1
      obtain ⟨n, hn2⟩ : ∃ n : Nat, (p.body.getD i zst).n = n := ⟨(p.body.getD i zst).n.toNat, by omega⟩
      rw [hn2] at hk3 nx m
      rw [Int.toNat_natCast] at nx
      have hk4 : (s'.o.length : Int) + (n : Int) * stp p.body b ≤ 4000 := by rw [Int.mul_add] at hk3; omega
      obtain ⟨T, hT⟩ : ∃ T, T = times (runN p b) n s' := ⟨_, rfl⟩
      rw [← hT] at nx
      refine go3 ?_
      refine WC.loopS (S := Nat × Mc × Int × Int × Bool) (fun u => [(0, .ad 1000000 [] 0), (2, i64 z), (6, .im p.body.length (encL stR p.body)), (7, i64 i), (9, i64 n2), (12, i64 u.1), (1000000, .op (l6c p u.2.1 u.2.2.1 u.2.2.2.1 u.2.2.2.2))]) (fun u => L6J p b n T u.1 u.2.1 u.2.2.1 u.2.2.2.1 u.2.2.2.2) (fun u => n - u.1) (0, s', 0, 0, false) (.cons rfl (.cons rfl (.cons rfl (.cons rfl (.cons rfl (.cons rfl (.cons rfl .nil))))))) ⟨Nat.zero_le _, fun _ => ⟨rfl, rfl, hm, hk4, hT.symm⟩, fun h => by cases h⟩ ?_
      clear hk3 hk4 hT hm
      rintro ⟨j, s2, e2, c2, st2⟩ g
      dsimp only at g ⊢
      have gj := g.le
      cases st2 with
      | true =>
        obtain ⟨he, hq⟩ := g.st rfl
        have nx := nx.of1 hq he
        refine go3 ?_
        refine WO.ixN (f := stR) zst rfl rfl rfl hi rfl ?_
        refine go3 ?_
        rw [hn2]
        refine WO.cmp rfl rfl rfl rfl rfl (fun h3 => ?_) (fun h3 => ?_)
        · refine go3 ?_
          rw [show (n2 : Int) + 1 = ((n2 + 1 : Nat) : Int) by omega]
          exact lpK.mk (n2 + 1, q', s2, e2, c2, true) (.cons rfl (.cons rfl (.cons rfl (.cons rfl (.cons rfl .nil))))) ⟨nx, by dsimp only; omega⟩ (by dsimp only; omega)
        · refine go3 ?_
          rw [show (n2 : Int) + 1 = ((n2 + 1 : Nat) : Int) by omega]
          exact lpK.mk (n2 + 1, q', s2, e2, c2, true) (.cons rfl (.cons rfl (.cons rfl (.cons rfl (.cons rfl .nil))))) ⟨nx, by dsimp only; omega⟩ (by dsimp only; omega)
      | false =>
        obtain ⟨rfl, rfl, j1, j2, j3⟩ := g.go rfl
        refine go3 ?_
        refine WO.ixN (f := stR) zst rfl rfl rfl hi rfl ?_
        refine go3 ?_
        rw [hn2]
        refine WO.cmp rfl rfl rfl rfl rfl (fun h3 => ?_) (fun h3 => ?_)
        · have hj3 : j < n := by omega
          have nj := L6J.next hj3 b0 j2 (gb s2 j1) j3
          have hmul : stp p.body b ≤ ((n - j : Nat) : Int) * stp p.body b := by
            obtain ⟨w, hw⟩ : ∃ w, n - j = w + 1 := ⟨n - j - 1, by omega⟩
            have : 0 ≤ (w : Int) * stp p.body b := Int.mul_nonneg (by omega) b0
            rw [hw, Int.natCast_add, Int.add_mul]; omega
          have cb := cB.at1 j1 (by omega)
          generalize runN p b s2 = q1 at *
          refine go3 ?_
          refine WO.callD (xs := [.tmp 118, .tmp 119]) rfl rfl rfl rfl rfl cb rfl rfl rfl rfl ?_
          refine go3 ?_
          rw [show (j : Int) + 1 = ((j + 1 : Nat) : Int) by omega]
          exact lpK.mk (j + 1, q1.1, q1.2.1, q1.2.2, decide (q1.2.1 ≠ 0)) (.cons rfl (.cons rfl (.cons rfl (.cons rfl (.cons rfl (.cons rfl (.cons rfl .nil))))))) nj (show n - (j + 1) < n - j by omega)
        · have e0 : n - j = 0 := by omega
          rw [e0] at j3
          have nx := nx.of0 j3
          refine go3 ?_
          rw [show (n2 : Int) + 1 = ((n2 + 1 : Nat) : Int) by omega]
          exact lpK.mk (n2 + 1, q', s2, 0, 0, false) (.cons rfl (.cons rfl (.cons rfl (.cons rfl (.cons rfl .nil))))) ⟨nx, by dsimp only; omega⟩ (by dsimp only; omega)
  | @two _ m2 n2 _ b o q' h hn hb ho he hE hr' =>
    have hle := hb.le
    have hle1 := ho.le
    have hle2 := hr'.le
    have b0 := stp_nn hL hb.ok
    have o0 := stp_nn hL ho.ok
    have q0 := stp_nn hL hr'.ok
    have gb := runN_good hp b hb.gd
    have gs := stpN_good hp hi (by rcases hn with h | h <;> omega) (b := b) (o := o) b0 o0 gb (runN_good hp o ho.gd) (catN p i) s' hm
    have cB := ih (m2 - (i + 1)) (by omega) (i + 1) m2 b (Nat.le_refl _) (by omega) hb
    have cO := ih (n2 - (m2 + 1)) (by omega) (m2 + 1) n2 o (Nat.le_refl _) (by omega) ho
    have hm2 : m2 < p.body.length := by rcases hn with h | h <;> exact h.2.1
    have hcat : catN p i = (p.body.getD m2 zst).n := by unfold catN nA; rw [hE]; simp [midI]
    have hk3 := hk2
    rw [stp_cons] at hk2
    have hk2' : (s'.o.length : Int) + (stp p.body (.cons i b o .nil) + stp p.body q') ≤ 4000 := by omega
    simp only [runN] at hrun
    have nx := fun q1 (hq : stpN p (p.body.getD i zst) (runN p b) (runN p o) (catN p i) s' = q1) => L6I.next (Q := Q) (q1 := q1) (j := n2 + 1) (z := z) (by omega) hr' (hq ▸ gs) hk2' (hq ▸ hrun)
    clear gs hrun hk2 hk2' ih
    refine go3 ?_
    refine WO.call rfl rfl rfl (l3End1 p.body (by omega) i hi (m := m2) (e := n2) (by rw [hE]; exact ⟨rfl, rfl⟩)) rfl rfl ?_
    refine go3 ?_
    refine WO.ixN (f := stR) zst rfl rfl rfl hi rfl ?_
    rcases hn with ⟨h2, -⟩ | ⟨h2, -⟩
    · have h2' := h2
      rw [hopA] at h2'
      have m := (stOk26 (.inl h2')).1 ht
      rw [stp_if2 _ _ _ _ _ h2] at hk3
      refine go3 ?_
      refine WC.regionDd ⟨[[], [0], [0, 1], [0, 1, 2], [], [4], [4, 5], [4, 5, 6], [], [], [8, 9], [8, 9, 10], [8, 9, 10, 11], [0, 1, 2, 3, 4, 5, 6, 7, 8, 9, 10, 11, 12], [0, 1, 2, 3, 4, 5, 6, 7, 8, 9, 10, 11, 12, 13], [0, 1, 2, 3, 4, 5, 6, 7, 8, 9, 10, 11, 12, 13, 14], [0, 1, 2, 3, 4, 5, 6, 7, 8, 9, 10, 11, 12, 13, 14], [0, 1, 2, 3, 4, 5, 6, 7, 8, 9, 10, 11, 12, 13, 14, 15], [0, 1, 2, 3, 4, 5, 6, 7, 8, 9, 10, 11, 12, 13, 14, 15, 16, 17]], [0, 1, 2, 3, 4, 5, 6, 7, 8, 9, 10, 11, 12, 14, 15, 16, 17], [], [51, 52, 53, 54, 55, 56, 57, 58, 59, 60, 61, 62, 63, 50, 65, 66, 10], [0, 1, 2, 3, 4, 5, 6, 7, 8, 9, 10, 11, 12, 13, 14, 15, 16, 17, 18], [([55, 56, 57, 58, 59, 60, 61, 62, 63], [55, 56, 57, 58, 59, 60, 61, 62, 63], false), ([55, 56, 57, 58, 59, 60, 61, 62, 63], [55, 56, 57, 58, 59, 60, 61, 62, 63], false), ([55, 56, 57, 58, 59, 60, 61, 62, 63], [55, 56, 57, 58, 59, 60, 61, 62, 63], false), ([55, 56, 57, 58, 59, 60, 61, 62, 63], [55, 56, 57, 58, 59, 60, 61, 62, 63], false), ([51, 52, 53, 54, 59, 60, 61, 62, 63], [51, 52, 53, 54, 59, 60, 61, 62, 63], false), ([51, 52, 53, 54, 59, 60, 61, 62, 63], [51, 52, 53, 54, 59, 60, 61, 62, 63], false), ([51, 52, 53, 54, 59, 60, 61, 62, 63], [51, 52, 53, 54, 59, 60, 61, 62, 63], false), ([51, 52, 53, 54, 59, 60, 61, 62, 63], [51, 52, 53, 54, 59, 60, 61, 62, 63], false), ([51, 52, 53, 54, 55, 56, 57, 58, 60], [51, 52, 53, 54, 55, 56, 57, 58, 60], false), ([51, 52, 53, 54, 55, 56, 57, 58, 59], [51, 52, 53, 54, 55, 56, 57, 58, 59], false), ([51, 52, 53, 54, 55, 56, 57, 58], [51, 52, 53, 54, 55, 56, 57, 58], false), ([51, 52, 53, 54, 55, 56, 57, 58], [51, 52, 53, 54, 55, 56, 57, 58], false), ([51, 52, 53, 54, 55, 56, 57, 58], [51, 52, 53, 54, 55, 56, 57, 58], false), ([], [], false), ([], [], false), ([66], [66], false), ([65, 10], [65, 10], false), ([66], [66], false), ([], [], false)]⟩ (by kernel_rfl) ?_
      refine go3 ?_
      refine WD.q rfl rfl rfl rfl rfl (QE.ldGI (i := 0) (L := prR p) rfl rfl rfl rfl) rfl rfl rfl ?_
      refine go3 ?_
      refine WD.q rfl rfl rfl rfl rfl (QE.ldGI (i := 6) (L := envL s') rfl rfl rfl rfl) rfl rfl rfl ?_
      refine go3 ?_
      refine WD.q rfl rfl rfl rfl rfl (QE.ixN (f := stR) zst rfl rfl hi) rfl rfl rfl ?_
      refine go3 ?_
      by_cases tr : (rk p.w s'.v (p.body.getD i zst).ex []).2 = 0
      · refine WO.callF rfl (.ag (FrzL.plains rfl) (frzL6 rfl rfl rfl (.cons (.plain _ rfl) .nil))) (l5vN p s'.v (p.body.getD i zst).ex hB hp m.2.1.2.1 hm.v tr) rfl rfl rfl ?_
        refine go3 ?_
        refine WO.keep (e' := [(0, .ad 1000000 [] 0), (2, i64 z), (6, .im p.body.length (encL stR p.body)), (7, i64 i), (8, i64 m2), (9, i64 n2), (10, i64 (rk p.w s'.v (p.body.getD i zst).ex []).1), (67, .ad 1000000 [] 0), (68, i64 0), (1000000, .op (l6c p s' 0 0 false))]) (.cons rfl (.cons rfl (.cons rfl (.cons rfl (.cons rfl (.cons rfl (.cons rfl (.cons rfl (.cons rfl (.cons rfl .nil)))))))))) ?_
        refine WO.callD (xs := [.tmp 68]) rfl rfl rfl rfl rfl (l6Trap0 p s' 0 0 false) rfl rfl rfl rfl ?_
        refine go3 ?_
        by_cases hx : (rk p.w s'.v (p.body.getD i zst).ex []).1 = 0
        · have nx := (nx _ (stp_if0 h2' tr hx)).1
          generalize (rk p.w s'.v (p.body.getD i zst).ex []).1 = x at *
          have co := cO.at1 hm (by omega)
          generalize runN p o s' = q1 at *
          refine go3 ?_
          refine WO.callD (xs := [.tmp 95, .tmp 96]) rfl rfl rfl rfl rfl co rfl rfl rfl rfl ?_
          refine go3 ?_
          rw [show (n2 : Int) + 1 = ((n2 + 1 : Nat) : Int) by omega]
          exact lpK.mk (n2 + 1, q', q1.1, q1.2.1, q1.2.2, decide (q1.2.1 ≠ 0)) (.cons rfl (.cons rfl (.cons rfl (.cons rfl (.cons rfl .nil))))) ⟨nx, by dsimp only; omega⟩ (by dsimp only; omega)
        · have nx := (nx _ (stp_if1 h2' tr hx)).1
          generalize (rk p.w s'.v (p.body.getD i zst).ex []).1 = x at *
          have cb := cB.at1 hm (by omega)
          generalize runN p b s' = q1 at *
          refine go3 ?_
          refine WO.callD (xs := [.tmp 87, .tmp 88]) rfl rfl rfl rfl rfl cb rfl rfl rfl rfl ?_
          refine go3 ?_
          rw [show (n2 : Int) + 1 = ((n2 + 1 : Nat) : Int) by omega]
          exact lpK.mk (n2 + 1, q', q1.1, q1.2.1, q1.2.2, decide (q1.2.1 ≠ 0)) (.cons rfl (.cons rfl (.cons rfl (.cons rfl (.cons rfl .nil))))) ⟨nx, by dsimp only; omega⟩ (by dsimp only; omega)
      · have nq := (nx _ (stp_ifT h2' tr)).2 (show (2 : Int) ≠ 0 by omega)
        refine WO.callF rfl (.ag (FrzL.plains rfl) (frzL6 rfl rfl rfl (.cons (.plain _ rfl) .nil))) (l5vT p s'.v (p.body.getD i zst).ex hB hp m.2.1.2.1 hm.v tr) rfl rfl rfl ?_
        rw [← nq, l6q1 p s' _ (show (2 : Int) ≠ 0 by omega)]
        generalize (rk p.w s'.v (p.body.getD i zst).ex []).2 = tr' at *
        generalize (rp p.w s'.v (p.body.getD i zst).ex []).1 = y at *
        refine go3 ?_
        refine WO.keep (e' := [(0, .ad 1000000 [] 0), (67, .ad 1000000 [] 0), (68, i64 tr'), (1000000, .op (l6c p s' 0 0 false))]) (.cons rfl (.cons rfl (.cons rfl (.cons rfl .nil)))) ?_
        refine WO.callD (xs := [.tmp 68]) rfl rfl rfl rfl rfl (l6Trap1 p s' 0 0 false tr' tr) rfl rfl rfl rfl ?_
        refine go3 ?_
        exact ret00 rfl rfl
    · have h2' := h2
      rw [hopA] at h2'
      rw [stp_tr _ _ _ _ _ h2] at hk3
      have gq := gb s' hm
      have gl := gq.l
      have cb := cB.at1 hm (by omega)
      have co := fun hk => cO.at1 gq.k hk
      have x1 := fun h1 h3 => (nx _ (stp_tryC h2' h1 h3)).1
      have x2 := fun h1 => (nx _ (stp_tryN h2' h1)).1
      rw [hcat] at x1 x2
      clear nx hcat cB cO
      generalize runN p b s' = q at *
      have co := co (by omega)
      refine go3 ?_
      refine WO.callD (xs := [.tmp 125, .tmp 126]) rfl rfl rfl rfl rfl cb rfl rfl rfl rfl ?_
      by_cases hq0 : q.2.1 = 0
      · have x2 := x2 (by omega)
        rw [show l6q p q = l6c p q.1 q.2.1 q.2.2 false by simp only [l6q, hq0, ne_eq, not_true, decide_false]]
        rw [show decide (q.2.1 ≠ 0) = false by simp only [hq0, ne_eq, not_true, decide_false]] at x2
        refine go3 ?_
        refine WC.regionDd ⟨[[], [0], [0, 1], [0, 1, 2], [0, 1, 2, 3], [0, 1, 2, 3, 4], [0, 1, 2, 3, 4, 5], [0, 1, 2, 3, 4, 5, 6], [0, 1, 2, 3, 4, 5, 6, 7], [0, 1, 2, 3, 4, 5, 6, 7, 8], [0, 1, 2, 3, 4, 5, 6, 7, 8, 9], [0, 1, 2, 3, 4, 5, 6, 7, 8, 9, 10], [0, 1, 2, 3, 4, 5, 6, 7, 8, 9, 10, 11], [0, 1, 2, 3, 4, 5, 6, 7, 8, 9, 10, 11, 12], [0, 1, 2, 3, 4, 5, 6, 7, 8, 9, 10, 11, 12, 13], [0, 1, 2, 3, 4, 5, 6, 7, 8, 9, 10, 11, 12, 13, 14], [0, 1, 2, 3, 4, 5, 6, 7, 8, 9, 10, 11, 12, 13, 14, 15], [0, 1, 2, 3, 4, 5, 6, 7, 8, 9, 10, 11, 12, 13, 14, 15, 16], [0, 1, 2, 3, 4, 5, 6, 7, 8, 9, 10, 11, 12], [0, 1, 2, 3, 4, 5, 6, 7, 8, 9, 10, 11, 12], [0, 1, 2, 3, 4, 5, 6, 7, 8, 9, 10, 11, 12, 18, 19], [0, 1, 2, 3, 4, 5, 6, 7, 8, 9, 10, 11, 12, 18, 19, 20], [0, 1, 2, 3, 4, 5, 6, 7, 8, 9, 10, 11, 12, 18, 19, 20, 21], [0, 1, 2, 3, 4, 5, 6, 7, 8, 9, 10, 11, 12, 13, 14, 15, 16, 17, 18, 19, 20, 21, 22], [0, 1, 2, 3, 4, 5, 6, 7, 8, 9, 10, 11, 12, 13, 14, 15, 16, 17, 18, 19, 20, 21, 22, 23]], [0, 1, 2, 3, 4, 5, 6, 7, 8, 9, 10, 11, 12, 13, 14, 15, 16, 17, 18, 19, 20, 21, 22, 23, 24], [], [128, 129, 130, 131, 132, 133, 134, 135, 136, 137, 138, 139, 140, 141, 142, 143, 144, 145, 146, 147, 148, 149, 150, 151, 152], [0, 1, 2, 3, 4, 5, 6, 7, 8, 9, 10, 11, 12, 13, 14, 15, 16, 17, 18, 19, 20, 21, 22, 23, 24], [([], [], false), ([], [], false), ([], [], false), ([], [], false), ([], [], false), ([], [], false), ([], [], false), ([], [], false), ([], [], false), ([], [], false), ([], [], false), ([], [], false), ([], [], false), ([146, 147, 148, 149, 150], [146, 147, 148, 149, 150], false), ([146, 147, 148, 149, 150], [146, 147, 148, 149, 150], false), ([146, 147, 148, 149, 150], [146, 147, 148, 149, 150], false), ([146, 147, 148, 149, 150], [146, 147, 148, 149, 150], false), ([146, 147, 148, 149, 150], [146, 147, 148, 149, 150], false), ([141, 142, 143, 144, 145, 147], [141, 142, 143, 144, 145, 147], false), ([141, 142, 143, 144, 145, 146], [141, 142, 143, 144, 145, 146], false), ([141, 142, 143, 144, 145], [141, 142, 143, 144, 145], false), ([141, 142, 143, 144, 145], [141, 142, 143, 144, 145], false), ([141, 142, 143, 144, 145], [141, 142, 143, 144, 145], false), ([], [], false), ([], [], false)]⟩ (by kernel_rfl) ?_
        refine go3 ?_
        rw [show (n2 : Int) + 1 = ((n2 + 1 : Nat) : Int) by omega]
        exact lpK.mk (n2 + 1, q', q.1, q.2.1, q.2.2, false) (.cons rfl (.cons rfl (.cons rfl (.cons rfl (.cons rfl .nil))))) ⟨x2, by dsimp only; omega⟩ (by dsimp only; omega)
      · rw [show l6q p q = l6c p q.1 q.2.1 q.2.2 true by simp only [l6q, decide_eq_true hq0]]
        rw [decide_eq_true hq0] at x2
        refine go3 ?_
        refine WC.regionDd ⟨[[], [0], [0, 1], [0, 1, 2], [0, 1, 2, 3], [0, 1, 2, 3, 4], [0, 1, 2, 3, 4, 5], [0, 1, 2, 3, 4, 5, 6], [0, 1, 2, 3, 4, 5, 6, 7], [0, 1, 2, 3, 4, 5, 6, 7, 8], [0, 1, 2, 3, 4, 5, 6, 7, 8, 9], [0, 1, 2, 3, 4, 5, 6, 7, 8, 9, 10], [0, 1, 2, 3, 4, 5, 6, 7, 8, 9, 10, 11], [0, 1, 2, 3, 4, 5, 6, 7, 8, 9, 10, 11, 12], [0, 1, 2, 3, 4, 5, 6, 7, 8, 9, 10, 11, 12, 13], [0, 1, 2, 3, 4, 5, 6, 7, 8, 9, 10, 11, 12, 13, 14], [0, 1, 2, 3, 4, 5, 6, 7, 8, 9, 10, 11, 12, 13, 14, 15], [0, 1, 2, 3, 4, 5, 6, 7, 8, 9, 10, 11, 12, 13, 14, 15, 16], [0, 1, 2, 3, 4, 5, 6, 7, 8, 9, 10, 11, 12], [0, 1, 2, 3, 4, 5, 6, 7, 8, 9, 10, 11, 12], [0, 1, 2, 3, 4, 5, 6, 7, 8, 9, 10, 11, 12, 18, 19], [0, 1, 2, 3, 4, 5, 6, 7, 8, 9, 10, 11, 12, 18, 19, 20], [0, 1, 2, 3, 4, 5, 6, 7, 8, 9, 10, 11, 12, 18, 19, 20, 21], [0, 1, 2, 3, 4, 5, 6, 7, 8, 9, 10, 11, 12, 13, 14, 15, 16, 17, 18, 19, 20, 21, 22], [0, 1, 2, 3, 4, 5, 6, 7, 8, 9, 10, 11, 12, 13, 14, 15, 16, 17, 18, 19, 20, 21, 22, 23]], [0, 1, 2, 3, 4, 5, 6, 7, 8, 9, 10, 11, 12, 13, 14, 15, 16, 17, 18, 19, 20, 21, 22, 23, 24], [], [128, 129, 130, 131, 132, 133, 134, 135, 136, 137, 138, 139, 140, 141, 142, 143, 144, 145, 146, 147, 148, 149, 150, 151, 152], [0, 1, 2, 3, 4, 5, 6, 7, 8, 9, 10, 11, 12, 13, 14, 15, 16, 17, 18, 19, 20, 21, 22, 23, 24], [([], [], false), ([], [], false), ([], [], false), ([], [], false), ([], [], false), ([], [], false), ([], [], false), ([], [], false), ([], [], false), ([], [], false), ([], [], false), ([], [], false), ([], [], false), ([146, 147, 148, 149, 150], [146, 147, 148, 149, 150], false), ([146, 147, 148, 149, 150], [146, 147, 148, 149, 150], false), ([146, 147, 148, 149, 150], [146, 147, 148, 149, 150], false), ([146, 147, 148, 149, 150], [146, 147, 148, 149, 150], false), ([146, 147, 148, 149, 150], [146, 147, 148, 149, 150], false), ([141, 142, 143, 144, 145, 147], [141, 142, 143, 144, 145, 147], false), ([141, 142, 143, 144, 145, 146], [141, 142, 143, 144, 145, 146], false), ([141, 142, 143, 144, 145], [141, 142, 143, 144, 145], false), ([141, 142, 143, 144, 145], [141, 142, 143, 144, 145], false), ([141, 142, 143, 144, 145], [141, 142, 143, 144, 145], false), ([], [], false), ([], [], false)]⟩ (by kernel_rfl) ?_
        refine go3 ?_
        by_cases hq : q.2.1 = 1
        · refine WD.q rfl rfl rfl rfl rfl (QE.cmpT rfl rfl rfl hq) rfl rfl rfl ?_
          refine go3 ?_
          refine WD.q rfl rfl rfl rfl rfl (QE.ixN (f := stR) zst rfl rfl hm2) rfl rfl rfl ?_
          refine go3 ?_
          by_cases hq2 : q.2.2 = (p.body.getD m2 zst).n
          · have x1 := x1 hq hq2
            refine WD.q rfl rfl rfl rfl rfl (QE.cmpT rfl rfl rfl hq2) rfl rfl rfl ?_
            refine go3 ?_
            refine WO.st (cs' := l6c p q.1 q.2.1 q.2.2 false) rfl rfl rfl rfl rfl rfl rfl ?_
            refine go3 ?_
            refine WO.st (cs' := l6c p q.1 0 q.2.2 false) rfl rfl rfl rfl rfl rfl rfl ?_
            refine go3 ?_
            refine WO.st (cs' := l6c p q.1 0 0 false) rfl rfl rfl rfl rfl rfl rfl ?_
            refine go3 ?_
            generalize runN p o q.1 = q1 at *
            refine WO.callD (xs := [.tmp 166, .tmp 167]) rfl rfl rfl rfl rfl co rfl rfl rfl rfl ?_
            refine go3 ?_
            rw [show (n2 : Int) + 1 = ((n2 + 1 : Nat) : Int) by omega]
            exact lpK.mk (n2 + 1, q', q1.1, q1.2.1, q1.2.2, decide (q1.2.1 ≠ 0)) (.cons rfl (.cons rfl (.cons rfl (.cons rfl (.cons rfl .nil))))) ⟨x1, by dsimp only; omega⟩ (by dsimp only; omega)
          · have x2 := x2 (fun h => hq2 h.2)
            refine WD.q rfl rfl rfl rfl rfl (QE.cmpF rfl rfl rfl hq2) rfl rfl rfl ?_
            refine go3 ?_
            rw [show (n2 : Int) + 1 = ((n2 + 1 : Nat) : Int) by omega]
            exact lpK.mk (n2 + 1, q', q.1, q.2.1, q.2.2, true) (.cons rfl (.cons rfl (.cons rfl (.cons rfl (.cons rfl .nil))))) ⟨x2, by dsimp only; omega⟩ (by dsimp only; omega)
        · have x2 := x2 (fun h => hq h.1)
          refine WD.q rfl rfl rfl rfl rfl (QE.cmpF rfl rfl rfl hq) rfl rfl rfl ?_
          refine go3 ?_
          rw [show (n2 : Int) + 1 = ((n2 + 1 : Nat) : Int) by omega]
          exact lpK.mk (n2 + 1, q', q.1, q.2.1, q.2.2, true) (.cons rfl (.cons rfl (.cons rfl (.cons rfl (.cons rfl .nil))))) ⟨x2, by dsimp only; omega⟩ (by dsimp only; omega)
end Go.Eng.C
