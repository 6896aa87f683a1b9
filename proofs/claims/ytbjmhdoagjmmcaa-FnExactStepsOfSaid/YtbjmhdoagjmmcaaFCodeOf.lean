/- Part of the pure side: CodeOf. -/
import Derived.Test.YtbjmhdoagjmmcaaPCoreg
import Derived.Test.YtbjmhdoagjmmcaaPCoreg0
import Derived.Test.YtbjmhdoagjmmcaaPCoreg2
import Derived.Test.YtbjmhdoagjmmcaaPCoreg3
import Derived.Test.YtbjmhdoagjmmcaaPCoreg4
import Derived.Test.YtbjmhdoagjmmcaaPCoreg6
import Derived.Test.YtbjmhdoagjmmcaaPCoreg7
import Derived.Test.YtbjmhdoagjmmcaaPCoreg9
import Derived.Test.YtbjmhdoagjmmcaaTerm
import Derived.Test.YtbjmhdoagjmmcaaFCodeSt
import Derived.Test.YtbjmhdoagjmmcaaFSteps
set_option linter.unusedVariables false
set_option linter.unusedSimpArgs false
namespace Go.Proofs.Ytbjmhdoagjmmcaa.Pure
open Go.RowKit Go.Proofs.Ytbjmhdoagjmmcaa.PCore Go.Proofs.YtbjmhdoagjmmcaaW.PrintWords Go.Proofs.YtbjmhdoagjmmcaaW.PrintLast Go.Proofs.YtbjmhdoagjmmcaaW.PrintMore Go.Proofs.Ytbjmhdoagjmmcaa.Bs

/-- All that is known of a Prog that is right. -/
structure Right (n : Nat) (a b : List S77) (t : Int) (c : List Int) (x : List S42) (l : List S71) (v : Nat) : Prop where
  rt : Rt n a b t
  n1 : 1 ≤ n
  ins : insOk n a b = true
  room : roomOk t c x = true
  sts : x.all (stR n a b t c) = true
  nst : Nst x 0 x.length l
  blk : BlkOk x 0 x.length l
  len : l.length ≤ 1000
  v4 : v ≤ 400
  spec : SpecS x 0 x.length v
  impl : ImplS x l v
theorem insOk_iff {n : Nat} {a b : List S77} : insOk n a b = true ↔ a.length ≤ 3 ∧ b.length ≤ 3 ∧ (∀ e ∈ a, inOk (((2 ^ n : Nat) : Int) - 1) true e = true) ∧ (∀ e ∈ b, inOk (((2 ^ n : Nat) : Int) - 1) false e = true) ∧ sumBits a + sumBits b ≤ 10 := by
  simp only [insOk, Bool.and_eq_true, decide_eq_true_eq, List.all_eq_true, and_assoc]
theorem roomOk_iff {t : Int} {c : List Int} {x : List S42} : roomOk t c x = true ↔ 0 ≤ t ∧ t ≤ 6 ∧ c.length ≤ 2 ∧ x.length ≤ 40 ∧ ∀ u ∈ c, 1 ≤ u ∧ u ≤ 6 := by
  simp only [roomOk, cellOk, Bool.and_eq_true, decide_eq_true_eq, List.all_eq_true, and_assoc]
/-- What comes behind the inputs. -/
theorem specCode_ins (n : Nat) (hn : n ≤ 8) (h1 : 1 ≤ n) (a b : List S77) (ha : a.length ≤ 1048576) (hb : b.length ≤ 1048576) (t : Int) (c : List Int) (x : List S42) (r : Int) (h : insOk n a b = true → Ev (fun k => spec_CodeOf.j0 k false (n : Int) a b t c x) r) (h0 : insOk n a b = false → r = 2) : Ev (fun k => spec_CodeOf.f k (n : Int) a b t c x) r := by
  have hp := pow8 n hn
  have no : insOk n a b = false → Ev (fun k => spec_CodeOf.j0 k true (n : Int) a b t c x) r := by
    intro hh
    rw [h0 hh]
    refine Ev.step (fun k => by rw [spec_CodeOf.j0]) ?_
    simp only [if_true]; exact Ev.now _
  simp only [spec_CodeOf.f, l1In_eq, Option.bind_some, decide_eq_true (show (1 : Int) ≤ (n : Int) by omega), decide_eq_true (show (n : Int) ≤ 8 by omega), Bool.and_self, if_true]
  refine Ev.bind (specInputs_ev n hn a b t c x a ha true) ?_
  by_cases c1 : (a.all (inOk (((2 ^ n : Nat) : Int) - 1) true) && decide (a.length ≤ 3)) = true
  · simp only [if_pos c1]
    refine Ev.bind (specInputs_ev n hn a b t c x b hb false) ?_
    by_cases c2 : (b.all (inOk (((2 ^ n : Nat) : Int) - 1) false) && decide (b.length ≤ 3)) = true
    · simp only [if_pos c2]
      simp only [Bool.and_eq_true, List.all_eq_true, decide_eq_true_eq] at c1 c2
      simp only [spec_l3AllBits.f]
      refine Ev.bind ((specAllBits_l0 (((2 ^ n : Nat) : Int) - 1) (by omega) (n : Int) a b t c x c1.1 c2.1 c1.2 c2.2 a.length 0 0 (by omega) (by omega)).cast (by rw [List.drop_zero, Nat.zero_add])) ?_
      by_cases c3 : ((sumBits a + sumBits b : Nat) : Int) > 10
      · simp only [decide_eq_true c3]
        refine no ?_
        rw [← Bool.not_eq_true, insOk_iff]; omega
      · simp only [decide_eq_false c3]
        exact h (insOk_iff.2 ⟨c1.2, c2.2, c1.1, c2.1, by omega⟩)
    · simp only [if_neg c2]
      refine no ?_
      rw [← Bool.not_eq_true, insOk_iff]
      intro hh
      exact c2 (by simp only [Bool.and_eq_true, List.all_eq_true, decide_eq_true_eq]; exact ⟨hh.2.2.2.1, hh.2.1⟩)
  · simp only [if_neg c1]
    refine no ?_
    rw [← Bool.not_eq_true, insOk_iff]
    intro hh
    exact c1 (by simp only [Bool.and_eq_true, List.all_eq_true, decide_eq_true_eq]; exact ⟨hh.2.2.1, hh.1⟩)
theorem implSts_yes {n : Nat} {a b : List S77} {t : Int} (h : Rt n a b t) (c : List Int) (hc : c.length ≤ 2) (x : List S42) (hx : x.length ≤ 1048576) (hq : ∀ s ∈ x, s.f2.length ≤ 1048576 ∧ s.f3.length ≤ 1048576) {r : Int} (hr : Ev (fun k => (impl_nodesOf.f k x).bind fun p => if p.2 = true then ((impl_stepsIn.f k x p.1).bind fun t444 => (if t444 > 400 then (some 6) else (some 0))) else (some 5)) r) (d : Nat) : ∀ i : Nat, i + d = x.length → (∀ s ∈ x.drop i, stR n a b t c s = true) → Ev (fun k => impl_CodeOf.l0 k (x.length : Int) (i : Int) (n : Int) a b t c x) r := by
  induction d with
  | zero =>
    intro i hi hs
    refine Ev.step (fun k => by rw [impl_CodeOf.l0]) ?_
    simp only [if_neg (show ¬ (i : Int) < (x.length : Int) by omega)]
    exact hr
  | succ d ih =>
    intro i hi hs
    have hil : i < x.length := by omega
    have hm := hq _ (List.getElem_mem hil)
    rw [List.drop_eq_getElem_cons hil] at hs
    refine Ev.step (fun k => by rw [impl_CodeOf.l0]) ?_
    simp only [if_pos (show (i : Int) < (x.length : Int) by omega), if_pos (show 0 ≤ (i : Int) by omega), rdSt_at x i hil, wrap_succ (show i < 9223372036854775807 by omega)]
    refine Ev.bind ((implSt_ev h c hc x x[i] hm.1 hm.2).cast (hs _ List.mem_cons_self)) ?_
    simp only [if_true]
    exact ih (i + 1) (by omega) (fun s hs' => hs s (List.mem_cons_of_mem _ hs'))
theorem implSts_no {n : Nat} {a b : List S77} {t : Int} (h : Rt n a b t) (c : List Int) (hc : c.length ≤ 2) (x : List S42) (hx : x.length ≤ 1048576) (hq : ∀ s ∈ x, s.f2.length ≤ 1048576 ∧ s.f3.length ≤ 1048576) (d : Nat) : ∀ i : Nat, i + d = x.length → (x.drop i).all (stR n a b t c) = false → Ev (fun k => impl_CodeOf.l0 k (x.length : Int) (i : Int) (n : Int) a b t c x) 4 := by
  induction d with
  | zero =>
    intro i hi hs
    rw [List.drop_of_length_le (show x.length ≤ i by omega)] at hs
    cases hs
  | succ d ih =>
    intro i hi hs
    have hil : i < x.length := by omega
    have hm := hq _ (List.getElem_mem hil)
    rw [List.drop_eq_getElem_cons hil, List.all_cons] at hs
    refine Ev.step (fun k => by rw [impl_CodeOf.l0]) ?_
    simp only [if_pos (show (i : Int) < (x.length : Int) by omega), if_pos (show 0 ≤ (i : Int) by omega), rdSt_at x i hil, wrap_succ (show i < 9223372036854775807 by omega)]
    refine Ev.bind (implSt_ev h c hc x x[i] hm.1 hm.2) ?_
    cases e : stR n a b t c x[i]
    · simp only [Bool.false_eq_true, if_false]
      exact Ev.now _
    · simp only [if_true]
      rw [e, Bool.true_and] at hs
      exact ih (i + 1) (by omega) hs
theorem stR_loop {n : Nat} {a b : List S77} {t : Int} {c : List Int} {s : S42} (h : stR n a b t c s = true) (ho : s.f0 = 5) : 0 ≤ s.f1 ∧ s.f1 ≤ 4 := by
  simp only [stR, ho, if_neg (show ¬ (5 : Int) = 0 by decide), if_neg (show ¬ (5 : Int) = 1 by decide), if_neg (show ¬ (5 : Int) = 2 by decide), if_neg (show ¬ (5 : Int) = 6 by decide), if_true, rng, Bool.and_eq_true, decide_eq_true_eq] at h
  exact h.1
/-- Both tell one number; where it is 0 the Prog is right. -/
theorem codeOf_all (w : Int) (a b : List S77) (ha : a.length ≤ 1048576) (hb : b.length ≤ 1048576) (t : Int) (c : List Int) (x : List S42) (hx : x.length ≤ 1048576) (hq : ∀ s ∈ x, s.f2.length ≤ 1048576 ∧ s.f3.length ≤ 1048576) :
    ∃ r : Int, Ev (fun k => spec_CodeOf.f k w a b t c x) r ∧ Ev (fun k => impl_CodeOf.f k w a b t c x) r ∧ (r = 0 → ∃ (n : Nat) (l : List S71) (v : Nat), w = (n : Int) ∧ Right n a b t c x l v) := by
  have jT : Ev (fun k => impl_CodeOf.j0 k true w a b t c x) 1 := by
    refine Ev.step (fun k => by rw [impl_CodeOf.j0]) ?_
    simp only [if_true]; exact Ev.now _
  by_cases w0 : w < 1
  · refine ⟨1, ?_, ?_, fun h => by cases h⟩
    · simp only [spec_CodeOf.f, l1In_eq, Option.bind_some, decide_eq_false (show ¬ (1 : Int) ≤ w by omega), Bool.false_and, Bool.false_eq_true, if_false]
      exact Ev.now _
    · simp only [impl_CodeOf.f, if_pos w0]
      exact jT
  by_cases w8 : w > 8
  · refine ⟨1, ?_, ?_, fun h => by cases h⟩
    · simp only [spec_CodeOf.f, l1In_eq, Option.bind_some, decide_eq_false (show ¬ w ≤ 8 by omega), Bool.and_false, Bool.false_eq_true, if_false]
      exact Ev.now _
    · simp only [impl_CodeOf.f, if_neg w0, decide_eq_true w8]
      exact jT
  obtain ⟨n, rfl⟩ := Int.eq_ofNat_of_zero_le (show 0 ≤ w by omega)
  have hn : n ≤ 8 := by omega
  have h1 : 1 ≤ n := by omega
  -- how far the program comes
  have im : ∀ r : Int, Ev (fun k => (impl_inputRight.f k [(⟨(n : Int), a, b, t, c, x⟩ : S35)]).bind fun t436 => (if t436 = true then ((impl_roomRight.f k [(⟨(n : Int), a, b, t, c, x⟩ : S35)]).bind fun t437 => (if t437 = true then (impl_CodeOf.l0 k (x.length : Int) 0 (n : Int) a b t c x) else (some 3))) else (some 2))) r → Ev (fun k => impl_CodeOf.f k (n : Int) a b t c x) r := by
    intro r hr
    simp only [impl_CodeOf.f, if_neg w0, decide_eq_false w8]
    refine Ev.step (fun k => by rw [impl_CodeOf.j0]) ?_
    simp only [Bool.false_eq_true, if_false]
    exact hr
  cases ei : insOk n a b
  · refine ⟨2, specCode_ins n hn h1 a b ha hb t c x 2 (fun h => by rw [ei] at h; cases h) (fun _ => rfl), im 2 ?_, fun h => by cases h⟩
    refine Ev.bind ((implInput_ev n hn a b t c x).cast ei) ?_
    simp only [Bool.false_eq_true, if_false]
    exact Ev.now _
  obtain ⟨a3, b3, _⟩ := insOk_iff.1 ei
  have sp : ∀ r : Int, Ev (fun k => (spec_l3Room.f k (n : Int) a b t c x).bind fun t296 => (if t296 = true then ((spec_l3Stmts.f k (n : Int) a b t c x).bind fun t297 => (if t297 = true then ((spec_l3Block.f k x 0).bind fun t298 => (if t298 = (x.length : Int) then ((spec_l3Steps.f k x 0 (x.length : Int)).bind fun t299 => (if t299 > 400 then (some 6) else (some 0))) else (some 5))) else (some 4))) else (some 3))) r → Ev (fun k => spec_CodeOf.f k (n : Int) a b t c x) r := by
    intro r hr
    refine specCode_ins n hn h1 a b ha hb t c x r (fun _ => ?_) (fun h => by rw [ei] at h; cases h)
    refine Ev.step (fun k => by rw [spec_CodeOf.j0]) ?_
    simp only [Bool.false_eq_true, if_false]
    exact hr
  have im2 : ∀ r : Int, Ev (fun k => (impl_roomRight.f k [(⟨(n : Int), a, b, t, c, x⟩ : S35)]).bind fun t437 => (if t437 = true then (impl_CodeOf.l0 k (x.length : Int) 0 (n : Int) a b t c x) else (some 3))) r → Ev (fun k => impl_CodeOf.f k (n : Int) a b t c x) r := by
    intro r hr
    refine im r ?_
    refine Ev.bind ((implInput_ev n hn a b t c x).cast ei) ?_
    simp only [if_true]
    exact hr
  cases er : roomOk t c x
  · refine ⟨3, sp 3 ?_, im2 3 ?_, fun h => by cases h⟩
    · refine Ev.bind ((specRoom_ev (n : Int) a b t c x).cast er) ?_
      simp only [Bool.false_eq_true, if_false]
      exact Ev.now _
    · refine Ev.bind ((implRoom_ev (n : Int) a b t c x).cast er) ?_
      simp only [Bool.false_eq_true, if_false]
      exact Ev.now _
  obtain ⟨t0, t6, c2, x40, _⟩ := roomOk_iff.1 er
  have rt : Rt n a b t := ⟨hn, a3, b3, t0, t6⟩
  have sp2 : ∀ r : Int, Ev (fun k => (spec_l3Stmts.f k (n : Int) a b t c x).bind fun t297 => (if t297 = true then ((spec_l3Block.f k x 0).bind fun t298 => (if t298 = (x.length : Int) then ((spec_l3Steps.f k x 0 (x.length : Int)).bind fun t299 => (if t299 > 400 then (some 6) else (some 0))) else (some 5))) else (some 4))) r → Ev (fun k => spec_CodeOf.f k (n : Int) a b t c x) r := by
    intro r hr
    refine sp r ?_
    refine Ev.bind ((specRoom_ev (n : Int) a b t c x).cast er) ?_
    simp only [if_true]
    exact hr
  have im3 : ∀ r : Int, Ev (fun k => impl_CodeOf.l0 k (x.length : Int) 0 (n : Int) a b t c x) r → Ev (fun k => impl_CodeOf.f k (n : Int) a b t c x) r := by
    intro r hr
    refine im2 r ?_
    refine Ev.bind ((implRoom_ev (n : Int) a b t c x).cast er) ?_
    simp only [if_true]
    exact hr
  cases es : x.all (stR n a b t c)
  · refine ⟨4, sp2 4 ?_, im3 4 (implSts_no rt c c2 x hx hq x.length 0 (by omega) (by rw [List.drop_zero]; exact es)), fun h => by cases h⟩
    refine Ev.bind ((specStmts_ev rt c c2 x hx hq).cast es) ?_
    simp only [Bool.false_eq_true, if_false]
    exact Ev.now _
  have hst : ∀ s ∈ x, stR n a b t c s = true := by simpa using es
  have hN : ∀ i, i < x.length → opx x i = 5 → 0 ≤ (rd_T42 x (i : Int)).f1 ∧ (rd_T42 x (i : Int)).f1 ≤ 4 := by
    intro i hi ho
    rw [opx, rdSt_at x i hi] at ho
    rw [rdSt_at x i hi]
    exact stR_loop (hst _ (List.getElem_mem hi)) ho
  have sp3 : ∀ (r e : Int), Ev (fun k => spec_l3Block.l0 k x 0) e → Ev (fun k => if e = (x.length : Int) then ((spec_l3Steps.f k x 0 (x.length : Int)).bind fun t299 => (if t299 > 400 then (some 6) else (some 0))) else (some 5)) r → Ev (fun k => spec_CodeOf.f k (n : Int) a b t c x) r := by
    intro r e he hr
    refine sp2 r ?_
    refine Ev.bind ((specStmts_ev rt c c2 x hx hq).cast es) ?_
    simp only [if_true]
    refine Ev.bind (Ev.step (fun k => by rw [spec_l3Block.f]) he) ?_
    exact hr
  have im4 : ∀ (r : Int), Ev (fun k => (impl_nodesOf.f k x).bind fun p => if p.2 = true then ((impl_stepsIn.f k x p.1).bind fun t444 => (if t444 > 400 then (some 6) else (some 0))) else (some 5)) r → Ev (fun k => impl_CodeOf.f k (n : Int) a b t c x) r := by
    intro r hr
    exact im3 r (implSts_yes rt c c2 x hx hq hr x.length 0 (by omega) (by rw [List.drop_zero]; exact hst))
  rcases blk_all x (by omega) x.length 0 (by omega) with ⟨e, l, he, hn0, hk⟩ | ⟨k1, k2⟩
  · obtain ⟨k1, k2⟩ := hk
    obtain ⟨m', n', kk⟩ := k2 [] 0 0 (by simp; omega)
    have nd : Ev (fun k => impl_nodesOf.f k x) (l, ((e : Int) == (x.length : Int))) := by
      simp only [impl_nodesOf.f]
      refine Ev.bind (Ev.step (fun k => by rw [impl_nester_many.f]; rfl) kk) ?_
      simp only [if_true, List.nil_append]
      exact Ev.now _
    by_cases ce : e = x.length
    · subst ce
      obtain ⟨v, l1, l2, l3, l4⟩ := steps_all x x40 hN hn0 (Nat.le_refl _)
      have nv := bnd_num (by omega) l2
      have f1 := l3.f nv
      have f2 := l4.f (by omega)
      by_cases cv : v ≤ 400
      · refine ⟨0, sp3 0 _ k1 ?_, im4 0 ?_, fun _ => ⟨n, l, v, rfl, rt, h1, ei, er, es, hn0, ⟨k1, k2⟩, by omega, cv, l3, l4⟩⟩
        · simp only [if_true]
          refine Ev.bind f1 ?_
          simp only [if_neg (show ¬ (v : Int) > 400 by omega)]
          exact Ev.now _
        · refine Ev.bind nd ?_
          simp only [beq_self_eq_true, if_true]
          refine Ev.bind f2 ?_
          simp only [if_neg (show ¬ ((min v 4000 : Nat) : Int) > 400 by omega)]
          exact Ev.now _
      · refine ⟨6, sp3 6 _ k1 ?_, im4 6 ?_, fun h => by cases h⟩
        · simp only [if_true]
          refine Ev.bind f1 ?_
          simp only [if_pos (show (v : Int) > 400 by omega)]
          exact Ev.now _
        · refine Ev.bind nd ?_
          simp only [beq_self_eq_true, if_true]
          refine Ev.bind f2 ?_
          simp only [if_pos (show ((min v 4000 : Nat) : Int) > 400 by omega)]
          exact Ev.now _
    · refine ⟨5, sp3 5 _ k1 ?_, im4 5 ?_, fun h => by cases h⟩
      · simp only [if_neg (show ¬ (e : Int) = (x.length : Int) by omega)]
        exact Ev.now _
      · refine Ev.bind nd ?_
        simp only [beq_eq_false_iff_ne.2 (show (e : Int) ≠ (x.length : Int) by omega), Bool.false_eq_true, if_false]
        exact Ev.now _
  · obtain ⟨a', m', n', kk⟩ := k2 [] 0 0 (by simp; omega)
    have nd : Ev (fun k => impl_nodesOf.f k x) (([] : List S71), false) := by
      simp only [impl_nodesOf.f]
      refine Ev.bind (Ev.step (fun k => by rw [impl_nester_many.f]; rfl) kk) ?_
      simp only [Bool.false_eq_true, if_false]
      exact Ev.now _
    refine ⟨5, sp3 5 _ k1 ?_, im4 5 ?_, fun h => by cases h⟩
    · simp only [if_neg (show ¬ (-1 : Int) = (x.length : Int) by omega)]
      exact Ev.now _
    · refine Ev.bind nd ?_
      simp only [Bool.false_eq_true, if_false]
      exact Ev.now _
theorem progOk_all (w : Int) (a b : List S77) (ha : a.length ≤ 1048576) (hb : b.length ≤ 1048576) (t : Int) (c : List Int) (x : List S42) (hx : x.length ≤ 1048576) (hq : ∀ s ∈ x, s.f2.length ≤ 1048576 ∧ s.f3.length ≤ 1048576) :
    ∃ r : Bool, Ev (fun k => spec_ProgOk.f k w a b t c x) r ∧ Ev (fun k => impl_ProgOk.f k w a b t c x) r ∧ (r = true → ∃ (n : Nat) (l : List S71) (v : Nat), w = (n : Int) ∧ Right n a b t c x l v) := by
  obtain ⟨r, k1, k2, k3⟩ := codeOf_all w a b ha hb t c x hx hq
  refine ⟨r == 0, ?_, ?_, fun h => k3 (by simpa using h)⟩
  · simp only [spec_ProgOk.f]
    refine Ev.bind k1 ?_
    exact Ev.now _
  · simp only [impl_ProgOk.f]
    refine Ev.bind k2 ?_
    exact Ev.now _

end Go.Proofs.Ytbjmhdoagjmmcaa.Pure
