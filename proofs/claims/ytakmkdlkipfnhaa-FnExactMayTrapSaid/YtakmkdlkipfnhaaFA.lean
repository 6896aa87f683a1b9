/- Part of the pure side: L1In, Nest, TakesOf, Tm, ExpOk, InputS, Code, TermS, StmtS, CodeSt, Steps, CodeOf, ToInt64S, EqInt64S, Prog. -/
import Derived.Test.YtakmkdlkipfnhaaPCoreg
import Derived.Test.YtakmkdlkipfnhaaPCoreg0
import Derived.Test.YtakmkdlkipfnhaaPCoreg1
import Derived.Test.YtakmkdlkipfnhaaPCoreg2
import Derived.Test.YtakmkdlkipfnhaaPCoreg3
import Derived.Test.YtakmkdlkipfnhaaPCoreg4
import Derived.Test.YtakmkdlkipfnhaaPCoreg5
import Derived.Test.YtakmkdlkipfnhaaPCoreg6
import Derived.Test.YtakmkdlkipfnhaaPCoreg7
import Derived.Test.YtakmkdlkipfnhaaPCoreg8
import Derived.Test.YtakmkdlkipfnhaaPCoreg9
import Derived.Test.YtakmkdlkipfnhaaPCoreg10
import Derived.Test.YtakmkdlkipfnhaaPCoreg11
import Derived.Test.YtakmkdlkipfnhaaTerm
set_option linter.unusedVariables false
set_option linter.unusedSimpArgs false
namespace Go.Proofs.Ytakmkdlkipfnhaa.Pure
open Go.RowKit Go.Proofs.Ytakmkdlkipfnhaa.PCore Go.Proofs.YtakmkdlkipfnhaaW.PrintWords Go.Proofs.YtakmkdlkipfnhaaW.PrintLast Go.Proofs.YtakmkdlkipfnhaaW.PrintMore Go.Proofs.Ytakmkdlkipfnhaa.Bs

theorem l1In_eq (a b c : Int) : spec_l1In.f a b c = some (decide (b ≤ a) && decide (a ≤ c)) := by
  unfold spec_l1In.f
  by_cases h : a ≥ b
  · rw [if_pos h]; simp [show b ≤ a from h]
  · rw [if_neg h]; simp [show ¬ b ≤ a from h]

/-- The Op of a place. -/
def opx (x : List S114) (a : Nat) : Int := (rd_T114 x (a : Int)).f0
/-- There is this Op at the place. -/
def isB (x : List S114) (a : Nat) (c : Int) : Bool := decide (a < x.length) && (opx x a == c)
theorem isB_lt {x : List S114} {a : Nat} {c : Int} (h : isB x a c = true) : a < x.length ∧ opx x a = c := by
  simp only [isB, Bool.and_eq_true, decide_eq_true_eq, beq_iff_eq] at h; exact h
theorem implIs_eq (x : List S114) (a : Nat) (m n c : Int) : impl_nester_is.f x (a : Int) m n c = some (isB x a c) := by
  unfold impl_nester_is.f isB opx
  by_cases h : a < x.length
  · rw [if_pos (by omega), if_pos (by omega), decide_eq_true h, Bool.true_and]
  · rw [if_neg (by omega), decide_eq_false h, Bool.false_and]
theorem specIs_eq (x : List S114) (hx : x.length ≤ 1000) (a : Nat) (c : Int) : spec_l3Is.f x (a : Int) c = some (isB x a c) := by
  unfold spec_l3Is.f isB opx
  rw [wrap_id (show -9223372036854775808 ≤ (x.length : Int) - 1 by omega) (by omega), l1In_eq, Option.bind_some]
  by_cases h : a < x.length
  · rw [if_pos (by simp; omega), if_pos (by omega), if_pos (by omega), decide_eq_true h, Bool.true_and]
  · rw [if_neg (by simp; omega), decide_eq_false h, Bool.false_and]
theorem specIs_neg (x : List S114) (hx : x.length ≤ 1000) (c : Int) : spec_l3Is.f x (-1) c = some false := by
  unfold spec_l3Is.f
  rw [wrap_id (show -9223372036854775808 ≤ (x.length : Int) - 1 by omega) (by omega), l1In_eq, Option.bind_some, if_neg (by simp)]
/-- Where a block stops: behind all, or at an else, an end, a catch. -/
def stops (x : List S114) (a : Nat) : Prop := x.length ≤ a ∨ opx x a = 3 ∨ opx x a = 4 ∨ opx x a = 9
/-- From a place to where the block stops: its nodes. -/
inductive Nst (x : List S114) : Nat → Nat → List S163 → Prop where
  | nil {a : Nat} (h : stops x a) : Nst x a a []
  | leaf {a e : Nat} {l : List S163} (h : a < x.length) (ho : opx x a ≠ 2 ∧ opx x a ≠ 3 ∧ opx x a ≠ 4 ∧ opx x a ≠ 5 ∧ opx x a ≠ 8 ∧ opx x a ≠ 9) (hr : Nst x (a + 1) e l) : Nst x a e (⟨(a : Int), [], []⟩ :: l)
  | one {a c e : Nat} {b l : List S163} (h : a < x.length) (ho : opx x a = 2 ∨ opx x a = 5) (hb : Nst x (a + 1) c b) (hc : isB x c 4 = true) (hr : Nst x (c + 1) e l) : Nst x a e (⟨(a : Int), b, []⟩ :: l)
  | two {a c d e : Nat} {b o l : List S163} (h : a < x.length) (ho : opx x a = 2 ∧ isB x c 3 = true ∨ opx x a = 8 ∧ isB x c 9 = true) (hb : Nst x (a + 1) c b) (hm : Nst x (c + 1) d o) (hd : isB x d 4 = true) (hr : Nst x (d + 1) e l) : Nst x a e (⟨(a : Int), b, o⟩ :: l)
theorem Nst.le {x : List S114} {a e : Nat} {l : List S163} (h : Nst x a e l) : a ≤ e := by
  induction h with
  | nil => exact Nat.le_refl _
  | leaf _ _ _ ih => omega
  | one _ _ _ _ _ ih1 ih2 => omega
  | two _ _ _ _ _ _ ih1 ih2 ih3 => omega
theorem Nst.stop {x : List S114} {a e : Nat} {l : List S163} (h : Nst x a e l) : stops x e := by
  induction h with
  | nil h => exact h
  | leaf _ _ _ ih => exact ih
  | one _ _ _ _ _ _ ih2 => exact ih2
  | two _ _ _ _ _ _ _ _ ih3 => exact ih3
/-- What stands at a place of an if, a loop, a try: where its middle is (or -1), where its end, its parts. -/
def Nd (x : List S114) (a : Nat) (mid : Int) (e : Nat) (b o : List S163) : Prop :=
  isB x e 4 = true ∧ (((opx x a = 2 ∨ opx x a = 5) ∧ mid = -1 ∧ o = [] ∧ Nst x (a + 1) e b) ∨
    ∃ c : Nat, mid = (c : Int) ∧ (opx x a = 2 ∧ isB x c 3 = true ∨ opx x a = 8 ∧ isB x c 9 = true) ∧ Nst x (a + 1) c b ∧ Nst x (c + 1) e o)
def BlkOk (x : List S114) (a e : Nat) (l : List S163) : Prop :=
  Ev (fun k => spec_l3Block.l0 k x (a : Int)) (e : Int) ∧ ∀ (pre : List S163) (m n : Int), pre.length + (x.length - a) ≤ 2000 → ∃ m' n', Ev (fun k => impl_nester_many.l0 k pre x (a : Int) m n) (pre ++ l, true, (e : Int), m', n')
def BlkNo (x : List S114) (a : Nat) : Prop :=
  Ev (fun k => spec_l3Block.l0 k x (a : Int)) (-1) ∧ ∀ (pre : List S163) (m n : Int), pre.length + (x.length - a) ≤ 2000 → ∃ a' m' n', Ev (fun k => impl_nester_many.l0 k pre x (a : Int) m n) ([], false, a', m', n')
def Blk (x : List S114) (a : Nat) : Prop := (∃ e l, e ≤ x.length ∧ Nst x a e l ∧ BlkOk x a e l) ∨ BlkNo x a
def EnOk (x : List S114) (a : Nat) (mid : Int) (e : Nat) (b o : List S163) : Prop :=
  Ev (fun k => spec_l3End.f k x (a : Int)) (mid, (e : Int)) ∧ ∀ m n : Int, Ev (fun k => impl_nester_one.f k x (a : Int) m n) ((a : Int), b, o, true, ((e + 1 : Nat) : Int), mid, (e : Int))
def EnNo (x : List S114) (a : Nat) : Prop :=
  Ev (fun k => spec_l3End.f k x (a : Int)) (-1, -1) ∧ ∀ m n : Int, ∃ a' m' n', Ev (fun k => impl_nester_one.f k x (a : Int) m n) (0, [], [], false, a', m', n')
def En (x : List S114) (a : Nat) : Prop := (∃ mid e b o, a < e ∧ e < x.length ∧ Nd x a mid e b o ∧ EnOk x a mid e b o) ∨ EnNo x a
/-! The steps of the reference. -/
theorem l3B_end (x : List S114) (a : Nat) (h : x.length ≤ a) : Ev (fun k => spec_l3Block.l0 k x (a : Int)) (a : Int) := by
  refine Ev.step (fun k => by rw [spec_l3Block.l0]) ?_
  simp only [if_neg (show ¬ (a : Int) < (x.length : Int) by omega)]
  exact Ev.now _
theorem l3B_stop (x : List S114) (a : Nat) (h : a < x.length) (ho : opx x a = 3 ∨ opx x a = 4 ∨ opx x a = 9) : Ev (fun k => spec_l3Block.l0 k x (a : Int)) (a : Int) := by
  unfold opx at ho
  refine Ev.step (fun k => by rw [spec_l3Block.l0]) ?_
  simp only [if_pos (show (a : Int) < (x.length : Int) by omega), if_pos (show 0 ≤ (a : Int) by omega)]
  rcases ho with ho | ho | ho
  · simp only [ho, if_true, beq_self_eq_true]
    refine Ev.step (fun k => by rw [spec_l3Block.j1]) ?_
    simp only [if_true]; exact Ev.now _
  · simp only [ho, if_neg (show ¬ (4 : Int) = 3 by decide), if_neg (show ¬ (4 : Int) = 9 by decide), beq_self_eq_true]
    refine Ev.step (fun k => by rw [spec_l3Block.j1]) ?_
    simp only [if_true]; exact Ev.now _
  · simp only [ho, if_neg (show ¬ (9 : Int) = 3 by decide), if_true, beq_self_eq_true]
    refine Ev.step (fun k => by rw [spec_l3Block.j1]) ?_
    simp only [if_true]; exact Ev.now _
theorem l3B_go (x : List S114) (a : Nat) (h : a < x.length) (h3 : opx x a ≠ 3) (h4 : opx x a ≠ 4) (h9 : opx x a ≠ 9) (b : Bool) (hb : b = true ↔ (opx x a = 2 ∨ opx x a = 5 ∨ opx x a = 8)) {r : Int} (k : Ev (fun k => spec_l3Block.j2 k x (a : Int) b) r) : Ev (fun k => spec_l3Block.l0 k x (a : Int)) r := by
  unfold opx at h3 h4 h9 hb
  refine Ev.step (fun k => by rw [spec_l3Block.l0]) ?_
  simp only [if_pos (show (a : Int) < (x.length : Int) by omega), if_pos (show 0 ≤ (a : Int) by omega), if_neg h3, if_neg h9, beq_eq_false_iff_ne.2 h4]
  refine Ev.step (fun k => by rw [spec_l3Block.j1]) ?_
  simp only [Bool.false_eq_true, if_false]
  generalize (rd_T114 x (a : Int)).f0 = op at hb
  by_cases c2 : op = 2
  · subst c2
    obtain rfl : b = true := hb.2 (by simp)
    simp only [if_true, beq_self_eq_true]; exact k
  by_cases c5 : op = 5
  · subst c5
    obtain rfl : b = true := hb.2 (by simp)
    simp only [if_neg c2, if_true, beq_self_eq_true]; exact k
  simp only [if_neg c2, if_neg c5]
  by_cases c8 : op = 8
  · subst c8
    obtain rfl : b = true := hb.2 (by simp)
    simp only [beq_self_eq_true]; exact k
  · have : b = false := by
      rw [← Bool.not_eq_true]; intro hh
      have := hb.1 hh
      omega
    subst this
    simp only [beq_eq_false_iff_ne.2 c8]; exact k
theorem l3B_leaf (x : List S114) (hx : x.length ≤ 1000) (a : Nat) (h : a < x.length) (ho : opx x a ≠ 2 ∧ opx x a ≠ 3 ∧ opx x a ≠ 4 ∧ opx x a ≠ 5 ∧ opx x a ≠ 8 ∧ opx x a ≠ 9) {r : Int} (k : Ev (fun k => spec_l3Block.l0 k x ((a + 1 : Nat) : Int)) r) : Ev (fun k => spec_l3Block.l0 k x (a : Int)) r := by
  refine l3B_go x a h ho.2.1 ho.2.2.1 ho.2.2.2.2.2 false (by simp [ho.1, ho.2.2.2.1, ho.2.2.2.2.1]) ?_
  refine Ev.step (fun k => by rw [spec_l3Block.j2]) ?_
  simp only [Bool.false_eq_true, if_false, wrap_succ (show a < 9223372036854775807 by omega)]
  exact k
theorem l3B_nest (x : List S114) (hx : x.length ≤ 1000) (a : Nat) (h : a < x.length) (ho : opx x a = 2 ∨ opx x a = 5 ∨ opx x a = 8) {mid : Int} {e : Nat} {r : Int} (he : e ≤ x.length) (k1 : Ev (fun k => spec_l3End.f k x (a : Int)) (mid, (e : Int))) (k : Ev (fun k => spec_l3Block.l0 k x ((e + 1 : Nat) : Int)) r) : Ev (fun k => spec_l3Block.l0 k x (a : Int)) r := by
  refine l3B_go x a h (by omega) (by omega) (by omega) true (by simp [ho]) ?_
  refine Ev.step (fun k => by rw [spec_l3Block.j2]) ?_
  simp only [if_true]
  refine Ev.bind k1 ?_
  simp only [if_neg (show ¬ (e : Int) < 0 by omega), wrap_succ (show e < 9223372036854775807 by omega)]
  exact k
theorem l3B_fail (x : List S114) (a : Nat) (h : a < x.length) (ho : opx x a = 2 ∨ opx x a = 5 ∨ opx x a = 8) (k1 : Ev (fun k => spec_l3End.f k x (a : Int)) (-1, -1)) : Ev (fun k => spec_l3Block.l0 k x (a : Int)) (-1) := by
  refine l3B_go x a h (by omega) (by omega) (by omega) true (by simp [ho]) ?_
  refine Ev.step (fun k => by rw [spec_l3Block.j2]) ?_
  simp only [if_true]
  refine Ev.bind k1 ?_
  simp only [if_pos (show (-1 : Int) < 0 by decide)]
  exact Ev.now _
theorem l3E_step (x : List S114) (a : Nat) (h : a < x.length) (hx : x.length ≤ 1000) {t : Int} (k1 : Ev (fun k => spec_l3Block.l0 k x ((a + 1 : Nat) : Int)) t) : Ev (fun k => spec_l3Block.f k x (wrap64 ((a : Int) + 1))) t := by
  rw [wrap_succ (show a < 9223372036854775807 by omega)]
  exact Ev.step (fun k => by rw [spec_l3Block.f]) k1
/-! The steps of the program. -/
theorem many_stop (x : List S114) (a : Nat) (h : stops x a) (pre : List S163) (m n : Int) : Ev (fun k => impl_nester_many.l0 k pre x (a : Int) m n) (pre, true, (a : Int), m, n) := by
  refine Ev.step (fun k => by rw [impl_nester_many.l0]) ?_
  by_cases c : (a : Int) < (x.length : Int)
  · have hs : isB x a 3 = true ∨ isB x a 4 = true ∨ isB x a 9 = true := by
      have hl : a < x.length := by omega
      simp only [isB, decide_eq_true hl, Bool.true_and, beq_iff_eq]
      rcases h with h | h
      · omega
      · exact h
    simp only [if_pos c, implIs_eq, Option.bind_some]
    by_cases c3 : isB x a 3 = true
    · simp only [if_pos c3]
      refine Ev.step (fun k => by rw [impl_nester_many.j1]) ?_
      simp only [Bool.false_eq_true, if_false]; exact Ev.now _
    by_cases c4 : isB x a 4 = true
    · simp only [if_neg c3, if_pos c4]
      refine Ev.step (fun k => by rw [impl_nester_many.j1]) ?_
      simp only [Bool.false_eq_true, if_false]; exact Ev.now _
    have c9 : isB x a 9 = true := by
      rcases hs with h | h | h
      · exact absurd h c3
      · exact absurd h c4
      · exact h
    simp only [if_neg c3, if_neg c4, c9, Bool.not_true]
    refine Ev.step (fun k => by rw [impl_nester_many.j1]) ?_
    simp only [Bool.false_eq_true, if_false]; exact Ev.now _
  · simp only [if_neg c]
    refine Ev.step (fun k => by rw [impl_nester_many.j1]) ?_
    simp only [Bool.false_eq_true, if_false]; exact Ev.now _
theorem many_go (x : List S114) (a : Nat) (h : a < x.length) (h3 : opx x a ≠ 3) (h4 : opx x a ≠ 4) (h9 : opx x a ≠ 9) (pre : List S163) (m n : Int) {r : List S163 × Bool × Int × Int × Int} (k : Ev (fun k => impl_nester_many.j1 k pre true x (a : Int) m n) r) : Ev (fun k => impl_nester_many.l0 k pre x (a : Int) m n) r := by
  have e3 : isB x a 3 = false := by simp only [isB, beq_eq_false_iff_ne.2 h3, Bool.and_false]
  have e4 : isB x a 4 = false := by simp only [isB, beq_eq_false_iff_ne.2 h4, Bool.and_false]
  have e9 : isB x a 9 = false := by simp only [isB, beq_eq_false_iff_ne.2 h9, Bool.and_false]
  refine Ev.step (fun k => by rw [impl_nester_many.l0]) ?_
  simp only [if_pos (show (a : Int) < (x.length : Int) by omega), implIs_eq, Option.bind_some, e3, e4, e9, Bool.false_eq_true, if_false, Bool.not_false]
  exact k
theorem one_leaf (x : List S114) (hx : x.length ≤ 1000) (a : Nat) (h : a < x.length) (ho : opx x a ≠ 2 ∧ opx x a ≠ 5 ∧ opx x a ≠ 8) (m n : Int) : Ev (fun k => impl_nester_one.f k x (a : Int) m n) ((a : Int), [], [], true, ((a + 1 : Nat) : Int), m, n) := by
  unfold opx at ho
  refine Ev.step (fun k => by rw [impl_nester_one.f]) ?_
  simp only [if_pos (show (a : Int) < (x.length : Int) by omega), if_pos (show 0 ≤ (a : Int) by omega), if_neg ho.1, if_neg ho.2.1, bne_iff_ne.2 ho.2.2, wrap_succ (show a < 9223372036854775807 by omega)]
  refine Ev.step (fun k => by rw [impl_nester_one.j0]) ?_
  simp only [if_true]
  exact Ev.now _
theorem one_nest (x : List S114) (hx : x.length ≤ 1000) (a : Nat) (h : a < x.length) (ho : opx x a = 2 ∨ opx x a = 5 ∨ opx x a = 8) (m n : Int) {r : Int × List S163 × List S163 × Bool × Int × Int × Int} (k : Ev (fun k => impl_nester_one.j0 k (opx x a) false x ((a + 1 : Nat) : Int) m n (a : Int)) r) : Ev (fun k => impl_nester_one.f k x (a : Int) m n) r := by
  unfold opx at ho k
  refine Ev.step (fun k => by rw [impl_nester_one.f]) ?_
  simp only [if_pos (show (a : Int) < (x.length : Int) by omega), if_pos (show 0 ≤ (a : Int) by omega), wrap_succ (show a < 9223372036854775807 by omega)]
  generalize (rd_T114 x (a : Int)).f0 = op at ho k
  rcases ho with rfl | rfl | rfl
  · simp only [if_true]; exact k
  · simp only [if_neg (show ¬ (5 : Int) = 2 by decide), if_true]; exact k
  · simp only [if_neg (show ¬ (8 : Int) = 2 by decide), if_neg (show ¬ (8 : Int) = 5 by decide), bne_self_eq_false]; exact k
/-- The end of a node with a body: from where its last part stops. -/
theorem one_fail (op : Int) (x : List S114) (mid at_ m n a : Int) (b o : List S163) : Ev (fun k => impl_nester_one.j2 k op false mid x at_ m n a b o) (0, [], [], false, at_, m, n) := by
  refine Ev.step (fun k => by rw [impl_nester_one.j2]) ?_
  simp only [Bool.false_eq_true, if_false]
  refine Ev.step (fun k => by rw [impl_nester_one.j3]) ?_
  simp only [if_true]
  exact Ev.now _
theorem one_noend (op : Int) (x : List S114) (mid : Int) (c : Nat) (m n a : Int) (b o : List S163) (h : isB x c 4 = false ∨ op = 8 ∧ mid < 0) : Ev (fun k => impl_nester_one.j2 k op true mid x (c : Int) m n a b o) (0, [], [], false, (c : Int), m, n) := by
  refine Ev.step (fun k => by rw [impl_nester_one.j2]) ?_
  simp only [if_true, implIs_eq, Option.bind_some]
  by_cases c4 : isB x c 4 = true
  · have h8 : op = 8 ∧ mid < 0 := by
      rcases h with h | h
      · rw [h] at c4; cases c4
      · exact h
    simp only [if_pos c4, if_pos h8.1, decide_eq_true h8.2]
    refine Ev.step (fun k => by rw [impl_nester_one.j3]) ?_
    simp only [if_true]
    exact Ev.now _
  · simp only [if_neg c4]
    refine Ev.step (fun k => by rw [impl_nester_one.j3]) ?_
    simp only [if_true]
    exact Ev.now _
theorem one_end (op : Int) (x : List S114) (hx : x.length ≤ 1000) (mid : Int) (c : Nat) (m n a : Int) (b o : List S163) (h : isB x c 4 = true) (h8 : op = 8 → ¬ mid < 0) : Ev (fun k => impl_nester_one.j2 k op true mid x (c : Int) m n a b o) (a, b, o, true, ((c + 1 : Nat) : Int), mid, (c : Int)) := by
  have hc := (isB_lt h).1
  refine Ev.step (fun k => by rw [impl_nester_one.j2]) ?_
  simp only [if_true, implIs_eq, Option.bind_some, if_pos h]
  by_cases c8 : op = 8
  · simp only [if_pos c8, decide_eq_false (h8 c8)]
    refine Ev.step (fun k => by rw [impl_nester_one.j3]) ?_
    simp only [Bool.false_eq_true, if_false, wrap_succ (show c < 9223372036854775807 by omega)]
    exact Ev.now _
  · simp only [if_neg c8]
    refine Ev.step (fun k => by rw [impl_nester_one.j3]) ?_
    simp only [Bool.false_eq_true, if_false, wrap_succ (show c < 9223372036854775807 by omega)]
    exact Ev.now _
/-- With a middle, or without. -/
theorem one_body (x : List S114) (a : Nat) (op : Int) (c : Nat) (m n m' n' : Int) (b : List S163) (at1 : Int) (k1 : Ev (fun k => impl_nester_many.f k x at1 m n) (b, true, (c : Int), m', n')) {r : Int × List S163 × List S163 × Bool × Int × Int × Int}
    (k : Ev (fun k => impl_nester_one.j1 k op true (-1) (decide (op = 2) && isB x c 3 || decide (op = 8) && isB x c 9) x (c : Int) m' n' (a : Int) b) r) : Ev (fun k => impl_nester_one.j0 k op false x at1 m n (a : Int)) r := by
  refine Ev.step (fun k => by rw [impl_nester_one.j0]) ?_
  simp only [Bool.false_eq_true, if_false]
  refine Ev.bind k1 ?_
  simp only [if_true, implIs_eq, Option.bind_some]
  by_cases c2 : op = 2
  · subst c2
    simp only [decide_true, Bool.true_and, if_true] at k ⊢
    by_cases c3 : isB x c 3 = true
    · simp only [c3, Bool.true_or, if_true] at k ⊢; exact k
    · rw [Bool.not_eq_true] at c3
      simp only [c3, Bool.false_or, Bool.false_eq_true, if_false, show decide ((2 : Int) = 8) = false by decide, Bool.false_and, if_neg (show ¬ (2 : Int) = 8 by decide)] at k ⊢; exact k
  · simp only [decide_eq_false c2, Bool.false_and, Bool.false_or, if_neg c2] at k ⊢
    by_cases c8 : op = 8
    · simp only [decide_eq_true c8, Bool.true_and, if_pos c8] at k ⊢; exact k
    · simp only [decide_eq_false c8, Bool.false_and, if_neg c8] at k ⊢; exact k
theorem one_nobody (x : List S114) (a : Nat) (op : Int) (m n c m' n' : Int) (b : List S163) (at1 : Int) (k1 : Ev (fun k => impl_nester_many.f k x at1 m n) (b, false, c, m', n')) : Ev (fun k => impl_nester_one.j0 k op false x at1 m n (a : Int)) (0, [], [], false, c, m', n') := by
  refine Ev.step (fun k => by rw [impl_nester_one.j0]) ?_
  simp only [Bool.false_eq_true, if_false]
  refine Ev.bind k1 ?_
  simp only [Bool.false_eq_true, if_false]
  refine Ev.step (fun k => by rw [impl_nester_one.j1]) ?_
  simp only [Bool.false_eq_true, if_false]
  exact one_fail _ _ _ _ _ _ _ _ _
/-- An if, a loop, a try: out of what is told of all blocks behind it. -/
theorem en_of (x : List S114) (hx : x.length ≤ 1000) (a : Nat) (h : a < x.length) (ho : opx x a = 2 ∨ opx x a = 5 ∨ opx x a = 8) (ih : ∀ a', a < a' → a' ≤ x.length → Blk x a') : En x a := by
  have hs : ∀ t : Int, Ev (fun k => spec_l3Block.l0 k x ((a + 1 : Nat) : Int)) t → Ev (fun k => spec_l3Block.f k x (wrap64 ((a : Int) + 1))) t := fun t k => l3E_step x a h hx k
  have hop : (rd_T114 x (a : Int)).f0 = opx x a := rfl
  have p0 : 0 ≤ (a : Int) := by omega
  have p1 : (a : Int) < (x.length : Int) := by omega
  rcases ih (a + 1) (by omega) (by omega) with ⟨c, b, hc, hn, k1, k2⟩ | ⟨k1, k2⟩
  · have hac := hn.le
    have kf : ∀ m n : Int, ∃ m' n', Ev (fun k => impl_nester_many.f k x ((a + 1 : Nat) : Int) m n) (b, true, (c : Int), m', n') := by
      intro m n
      obtain ⟨m', n', kk⟩ := k2 [] m n (by simp; omega)
      exact ⟨m', n', Ev.step (fun k => by rw [impl_nester_many.f]) kk⟩
    by_cases hm : (decide (opx x a = 2) && isB x c 3 || decide (opx x a = 8) && isB x c 9) = true
    · -- a middle
      have hm' : opx x a = 2 ∧ isB x c 3 = true ∨ opx x a = 8 ∧ isB x c 9 = true := by simpa using hm
      have hcl : c < x.length := by
        rcases hm' with hh | hh
        · exact (isB_lt hh.2).1
        · exact (isB_lt hh.2).1
      have h4 : isB x c 4 = false := by
        rw [← Bool.not_eq_true]; intro hh
        have e1 := (isB_lt hh).2
        rcases hm' with hh2 | hh2
        · have := (isB_lt hh2.2).2; omega
        · have := (isB_lt hh2.2).2; omega
      rcases ih (c + 1) (by omega) (by omega) with ⟨d, o, hd, hno, j1, j2⟩ | ⟨j1, j2⟩
      · have hcd := hno.le
        have kg : ∀ m n : Int, ∃ m' n', Ev (fun k => impl_nester_many.f k x (wrap64 ((c : Int) + 1)) m n) (o, true, (d : Int), m', n') := by
          intro m n
          obtain ⟨m', n', kk⟩ := j2 [] m n (by simp; omega)
          rw [wrap_succ (show c < 9223372036854775807 by omega)]
          exact ⟨m', n', Ev.step (fun k => by rw [impl_nester_many.f]) kk⟩
        have js : Ev (fun k => spec_l3Block.f k x (wrap64 ((c : Int) + 1))) (d : Int) := l3E_step x c hcl hx j1
        by_cases h5 : isB x d 4 = true
        · have hdl := (isB_lt h5).1
          refine .inl ⟨(c : Int), d, b, o, by omega, hdl, ⟨h5, .inr ⟨c, rfl, hm', hn, hno⟩⟩, ?_, fun m n => ?_⟩
          · refine Ev.step (fun k => by rw [spec_l3End.f]) ?_
            refine Ev.bind (hs _ k1) ?_
            simp only [if_pos p0, if_pos p1, hop, specIs_eq x hx, Option.bind_some, h4, Bool.false_eq_true, if_false]
            rcases hm' with ⟨e2, e3⟩ | ⟨e2, e3⟩
            · simp only [e2, if_neg (show ¬ (2 : Int) = 5 by decide), if_true, e3]
              refine Ev.bind js ?_
              simp only [specIs_eq x hx, Option.bind_some, h5, if_true]
              exact Ev.now _
            · simp only [e2, if_neg (show ¬ (8 : Int) = 5 by decide), if_neg (show ¬ (8 : Int) = 2 by decide), if_true, e3]
              refine Ev.bind js ?_
              simp only [specIs_eq x hx, Option.bind_some, h5, if_true]
              exact Ev.now _
          · obtain ⟨m1, n1, q1⟩ := kf m n
            obtain ⟨m2, n2, q2⟩ := kg m1 n1
            refine one_nest x hx a h ho m n (one_body x a (opx x a) c m n m1 n1 b _ q1 ?_)
            rw [hm]
            refine Ev.step (fun k => by rw [impl_nester_one.j1]) ?_
            simp only [if_true]
            refine Ev.bind q2 ?_
            exact one_end _ x hx _ d m2 n2 _ b o h5 (fun _ => by omega)
        · rw [Bool.not_eq_true] at h5
          refine .inr ⟨?_, fun m n => ?_⟩
          · refine Ev.step (fun k => by rw [spec_l3End.f]) ?_
            refine Ev.bind (hs _ k1) ?_
            simp only [if_pos p0, if_pos p1, hop, specIs_eq x hx, Option.bind_some, h4, Bool.false_eq_true, if_false]
            rcases hm' with ⟨e2, e3⟩ | ⟨e2, e3⟩
            · simp only [e2, if_neg (show ¬ (2 : Int) = 5 by decide), if_true, e3]
              refine Ev.bind js ?_
              simp only [specIs_eq x hx, Option.bind_some, h5, Bool.false_eq_true, if_false]
              exact Ev.now _
            · simp only [e2, if_neg (show ¬ (8 : Int) = 5 by decide), if_neg (show ¬ (8 : Int) = 2 by decide), if_true, e3]
              refine Ev.bind js ?_
              simp only [specIs_eq x hx, Option.bind_some, h5, Bool.false_eq_true, if_false]
              exact Ev.now _
          · obtain ⟨m1, n1, q1⟩ := kf m n
            obtain ⟨m2, n2, q2⟩ := kg m1 n1
            refine ⟨(d : Int), m2, n2, one_nest x hx a h ho m n (one_body x a (opx x a) c m n m1 n1 b _ q1 ?_)⟩
            rw [hm]
            refine Ev.step (fun k => by rw [impl_nester_one.j1]) ?_
            simp only [if_true]
            refine Ev.bind q2 ?_
            exact one_noend _ x _ d m2 n2 _ b o (.inl h5)
      · -- what is behind the middle is not well nested
        refine .inr ⟨?_, fun m n => ?_⟩
        · have js : Ev (fun k => spec_l3Block.f k x (wrap64 ((c : Int) + 1))) (-1) := l3E_step x c hcl hx j1
          refine Ev.step (fun k => by rw [spec_l3End.f]) ?_
          refine Ev.bind (hs _ k1) ?_
          simp only [if_pos p0, if_pos p1, hop, specIs_eq x hx, Option.bind_some, h4, Bool.false_eq_true, if_false]
          rcases hm' with ⟨e2, e3⟩ | ⟨e2, e3⟩
          · simp only [e2, if_neg (show ¬ (2 : Int) = 5 by decide), if_true, e3]
            refine Ev.bind js ?_
            simp only [specIs_neg x hx, Option.bind_some, Bool.false_eq_true, if_false]
            exact Ev.now _
          · simp only [e2, if_neg (show ¬ (8 : Int) = 5 by decide), if_neg (show ¬ (8 : Int) = 2 by decide), if_true, e3]
            refine Ev.bind js ?_
            simp only [specIs_neg x hx, Option.bind_some, Bool.false_eq_true, if_false]
            exact Ev.now _
        · obtain ⟨m1, n1, q1⟩ := kf m n
          obtain ⟨a2, m2, n2, q2⟩ := j2 [] m1 n1 (by simp; omega)
          have q2' : Ev (fun k => impl_nester_many.f k x (wrap64 ((c : Int) + 1)) m1 n1) ([], false, a2, m2, n2) := by
            rw [wrap_succ (show c < 9223372036854775807 by omega)]
            exact Ev.step (fun k => by rw [impl_nester_many.f]) q2
          refine ⟨a2, m2, n2, one_nest x hx a h ho m n (one_body x a (opx x a) c m n m1 n1 b _ q1 ?_)⟩
          rw [hm]
          refine Ev.step (fun k => by rw [impl_nester_one.j1]) ?_
          simp only [if_true]
          refine Ev.bind q2' ?_
          exact one_fail _ _ _ _ _ _ _ _ _
    · -- no middle
      rw [Bool.not_eq_true] at hm
      have hm2 : opx x a = 2 → isB x c 3 = false := by
        intro e2
        rw [e2] at hm
        simpa using hm
      have hm8 : opx x a = 8 → isB x c 9 = false := by
        intro e8
        rw [e8] at hm
        simpa using hm
      by_cases h5 : isB x c 4 = true ∧ opx x a ≠ 8
      · have hcl := (isB_lt h5.1).1
        have ho' : opx x a = 2 ∨ opx x a = 5 := by omega
        refine .inl ⟨-1, c, b, [], by omega, hcl, ⟨h5.1, .inl ⟨ho', rfl, rfl, hn⟩⟩, ?_, fun m n => ?_⟩
        · refine Ev.step (fun k => by rw [spec_l3End.f]) ?_
          refine Ev.bind (hs _ k1) ?_
          simp only [if_pos p0, if_pos p1, hop, specIs_eq x hx, Option.bind_some, h5.1, if_true]
          rcases ho' with e2 | e2
          · simp only [e2, if_neg (show ¬ (2 : Int) = 5 by decide), if_true]; exact Ev.now _
          · simp only [e2, if_true]; exact Ev.now _
        · obtain ⟨m1, n1, q1⟩ := kf m n
          refine one_nest x hx a h ho m n (one_body x a (opx x a) c m n m1 n1 b _ q1 ?_)
          rw [hm]
          refine Ev.step (fun k => by rw [impl_nester_one.j1]) ?_
          simp only [Bool.false_eq_true, if_false]
          exact one_end _ x hx _ c m1 n1 _ b [] h5.1 (fun e8 => absurd e8 h5.2)
      · refine .inr ⟨?_, fun m n => ?_⟩
        · refine Ev.step (fun k => by rw [spec_l3End.f]) ?_
          refine Ev.bind (hs _ k1) ?_
          simp only [if_pos p0, if_pos p1, hop, specIs_eq x hx, Option.bind_some]
          rcases ho with e2 | e2 | e2
          · have h4 : isB x c 4 = false := by
              rw [← Bool.not_eq_true]; intro hh; exact h5 ⟨hh, by omega⟩
            simp only [e2, if_neg (show ¬ (2 : Int) = 5 by decide), if_true, h4, hm2 e2, Bool.false_eq_true, if_false]; exact Ev.now _
          · have h4 : isB x c 4 = false := by
              rw [← Bool.not_eq_true]; intro hh; exact h5 ⟨hh, by omega⟩
            simp only [e2, if_true, h4, Bool.false_eq_true, if_false]; exact Ev.now _
          · simp only [e2, if_neg (show ¬ (8 : Int) = 5 by decide), if_neg (show ¬ (8 : Int) = 2 by decide), if_true, hm8 e2, Bool.false_eq_true, if_false]; exact Ev.now _
        · obtain ⟨m1, n1, q1⟩ := kf m n
          refine ⟨(c : Int), m1, n1, one_nest x hx a h ho m n (one_body x a (opx x a) c m n m1 n1 b _ q1 ?_)⟩
          rw [hm]
          refine Ev.step (fun k => by rw [impl_nester_one.j1]) ?_
          simp only [Bool.false_eq_true, if_false]
          refine one_noend _ x _ c m1 n1 _ b [] ?_
          by_cases e8 : opx x a = 8
          · exact .inr ⟨e8, by decide⟩
          · left
            rw [← Bool.not_eq_true]; intro hh; exact h5 ⟨hh, e8⟩
  · -- the body is not well nested
    refine .inr ⟨?_, fun m n => ?_⟩
    · refine Ev.step (fun k => by rw [spec_l3End.f]) ?_
      refine Ev.bind (hs _ k1) ?_
      simp only [if_pos p0, if_pos p1, hop, specIs_neg x hx, Option.bind_some, Bool.false_eq_true, if_false]
      rcases ho with e2 | e2 | e2
      · simp only [e2, if_neg (show ¬ (2 : Int) = 5 by decide), if_true]; exact Ev.now _
      · simp only [e2, if_true]; exact Ev.now _
      · simp only [e2, if_neg (show ¬ (8 : Int) = 5 by decide), if_neg (show ¬ (8 : Int) = 2 by decide), if_true]; exact Ev.now _
    · obtain ⟨a2, m2, n2, q2⟩ := k2 [] m n (by simp; omega)
      exact ⟨a2, m2, n2, one_nest x hx a h ho m n (one_nobody x a _ m n _ _ _ _ _ (Ev.step (fun k => by rw [impl_nester_many.f]) q2))⟩
theorem many_one (x : List S114) (a : Nat) (pre : List S163) (hp : pre.length ≤ 2000) (m n : Int) (b o : List S163) (e : Nat) (m1 n1 : Int) (k1 : Ev (fun k => impl_nester_one.f k x (a : Int) m n) ((a : Int), b, o, true, (e : Int), m1, n1)) {r : List S163 × Bool × Int × Int × Int} (k : Ev (fun k => impl_nester_many.l0 k (pre ++ [⟨(a : Int), b, o⟩]) x (e : Int) m1 n1) r) : Ev (fun k => impl_nester_many.j1 k pre true x (a : Int) m n) r := by
  refine Ev.step (fun k => by rw [impl_nester_many.j1]) ?_
  simp only [if_true]
  refine Ev.bind k1 ?_
  simp only [if_true, if_pos (show pre.length < 2513169434916 by omega)]
  exact k
theorem many_none (x : List S114) (a : Nat) (pre : List S163) (m n a1 m1 n1 : Int) (k1 : Ev (fun k => impl_nester_one.f k x (a : Int) m n) (0, [], [], false, a1, m1, n1)) : Ev (fun k => impl_nester_many.j1 k pre true x (a : Int) m n) ([], false, a1, m1, n1) := by
  refine Ev.step (fun k => by rw [impl_nester_many.j1]) ?_
  simp only [if_true]
  refine Ev.bind k1 ?_
  simp only [Bool.false_eq_true, if_false]
  exact Ev.now _
theorem blk_all (x : List S114) (hx : x.length ≤ 1000) (d : Nat) : ∀ a : Nat, a + d = x.length → Blk x a := by
  induction d using Nat.strongRecOn with
  | _ d ih =>
  intro a ha
  have ih' : ∀ a', a < a' → a' ≤ x.length → Blk x a' := fun a' h1 h2 => ih (x.length - a') (by omega) a' (by omega)
  by_cases hl : x.length ≤ a
  · exact .inl ⟨a, [], by omega, .nil (.inl hl), l3B_end x a hl, fun pre m n _ => ⟨m, n, by rw [List.append_nil]; exact many_stop x a (.inl hl) pre m n⟩⟩
  have h : a < x.length := by omega
  by_cases hs : opx x a = 3 ∨ opx x a = 4 ∨ opx x a = 9
  · exact .inl ⟨a, [], by omega, .nil (.inr hs), l3B_stop x a h hs, fun pre m n _ => ⟨m, n, by rw [List.append_nil]; exact many_stop x a (.inr hs) pre m n⟩⟩
  by_cases hn : opx x a = 2 ∨ opx x a = 5 ∨ opx x a = 8
  · rcases en_of x hx a h hn ih' with ⟨mid, e, b, o, hae, hel, hnd, k1, k2⟩ | ⟨k1, k2⟩
    · have nst : ∀ {e' : Nat} {l : List S163}, Nst x (e + 1) e' l → Nst x a e' (⟨(a : Int), b, o⟩ :: l) := by
        intro e' l hr
        obtain ⟨h4, hh⟩ := hnd
        rcases hh with ⟨ho, _, rfl, hb⟩ | ⟨c, _, ho, hb, hm⟩
        · exact .one h ho hb h4 hr
        · exact .two h ho hb hm h4 hr
      rcases ih' (e + 1) (by omega) (by omega) with ⟨e', l, he', hl', j1, j2⟩ | ⟨j1, j2⟩
      · refine .inl ⟨e', _, he', nst hl', l3B_nest x hx a h hn (by omega) k1 j1, fun pre m n hp => ?_⟩
        obtain ⟨m', n', q⟩ := j2 (pre ++ [⟨(a : Int), b, o⟩]) mid (e : Int) (by simp; omega)
        refine ⟨m', n', many_go x a h (by omega) (by omega) (by omega) pre m n (many_one x a pre (by omega) m n b o (e + 1) _ _ (k2 m n) ?_)⟩
        rw [List.append_assoc] at q
        exact q
      · refine .inr ⟨l3B_nest x hx a h hn (by omega) k1 j1, fun pre m n hp => ?_⟩
        obtain ⟨a', m', n', q⟩ := j2 (pre ++ [⟨(a : Int), b, o⟩]) mid (e : Int) (by simp; omega)
        exact ⟨a', m', n', many_go x a h (by omega) (by omega) (by omega) pre m n (many_one x a pre (by omega) m n b o (e + 1) _ _ (k2 m n) q)⟩
    · refine .inr ⟨l3B_fail x a h hn k1, fun pre m n hp => ?_⟩
      obtain ⟨a', m', n', q⟩ := k2 m n
      exact ⟨a', m', n', many_go x a h (by omega) (by omega) (by omega) pre m n (many_none x a pre m n _ _ _ q)⟩
  · have ho : opx x a ≠ 2 ∧ opx x a ≠ 3 ∧ opx x a ≠ 4 ∧ opx x a ≠ 5 ∧ opx x a ≠ 8 ∧ opx x a ≠ 9 := by omega
    have q1 := fun m n => one_leaf x hx a h ⟨ho.1, ho.2.2.2.1, ho.2.2.2.2.1⟩ m n
    rcases ih' (a + 1) (by omega) (by omega) with ⟨e', l, he', hl', j1, j2⟩ | ⟨j1, j2⟩
    · refine .inl ⟨e', _, he', .leaf h ho hl', l3B_leaf x hx a h ho j1, fun pre m n hp => ?_⟩
      obtain ⟨m', n', q⟩ := j2 (pre ++ [⟨(a : Int), [], []⟩]) m n (by simp; omega)
      refine ⟨m', n', many_go x a h ho.2.1 ho.2.2.1 ho.2.2.2.2.2 pre m n (many_one x a pre (by omega) m n [] [] (a + 1) _ _ (q1 m n) ?_)⟩
      rw [List.append_assoc] at q
      exact q
    · refine .inr ⟨l3B_leaf x hx a h ho j1, fun pre m n hp => ?_⟩
      obtain ⟨a', m', n', q⟩ := j2 (pre ++ [⟨(a : Int), [], []⟩]) m n (by simp; omega)
      exact ⟨a', m', n', many_go x a h ho.2.1 ho.2.2.1 ho.2.2.2.2.2 pre m n (many_one x a pre (by omega) m n [] [] (a + 1) _ _ (q1 m n) q)⟩
theorem en_all (x : List S114) (hx : x.length ≤ 1000) (a : Nat) (h : a < x.length) (ho : opx x a = 2 ∨ opx x a = 5 ∨ opx x a = 8) : En x a := en_of x hx a h ho (fun a' _ h2 => blk_all x hx (x.length - a') a' (by omega))

theorem specTakesOf_eq (a : Int) : spec_TakesOf.f a = some (tks a) := by
  unfold spec_TakesOf.f spec_l1In.f
  by_cases h : 0 ≤ a ∧ a ≤ 17
  · obtain ⟨h0, h1⟩ := h
    obtain ⟨n, rfl⟩ := Int.eq_ofNat_of_zero_le h0
    have : n ≤ 17 := by omega
    have : n = 0 ∨ n = 1 ∨ n = 2 ∨ n = 3 ∨ n = 4 ∨ n = 5 ∨ n = 6 ∨ n = 7 ∨ n = 8 ∨ n = 9 ∨ n = 10 ∨ n = 11 ∨ n = 12 ∨ n = 13 ∨ n = 14 ∨ n = 15 ∨ n = 16 ∨ n = 17 := by omega
    rcases this with h | h | h | h | h | h | h | h | h | h | h | h | h | h | h | h | h | h <;> subst h <;> rfl
  · have e : tks a = -1 := by
      unfold tks
      rw [if_neg (by omega), if_neg (by omega), if_neg (by omega), if_neg (by omega)]
    rw [e]
    by_cases h0 : a ≥ 0
    · rw [if_pos h0]; simp [show ¬ a ≤ 17 by omega]
    · rw [if_neg h0]; simp
theorem implTakesOf_ev (a : Int) : Ev (fun k => impl_TakesOf.f k a) (tks a) := by
  refine ⟨3, fun k hk => ?_⟩
  obtain ⟨k, rfl⟩ : ∃ m, k = m + 3 := ⟨k - 3, by omega⟩
  unfold tks
  by_cases c0 : a = 0
  · subst c0; rfl
  by_cases c1 : a = 1
  · subst c1; rfl
  by_cases c2 : a = 2
  · subst c2; rfl
  by_cases c3 : a = 3
  · subst c3; rfl
  by_cases c4 : a = 4
  · subst c4; rfl
  rw [if_neg (by omega), if_neg (by omega)]
  simp only [impl_TakesOf.f, impl_TakesOf.j0, impl_TakesOf.j1, if_neg c0, if_neg c2, if_neg c3, beq_eq_false_iff_ne.2 c1, beq_eq_false_iff_ne.2 c4, Bool.false_eq_true, if_false]
  by_cases c5 : a ≥ 5
  · simp only [if_pos c5, impl_TakesOf.j2]
    by_cases c6 : a ≤ 16
    · rw [if_pos (by simpa using c6), if_pos (by omega)]
    · rw [if_neg (by simpa using c6), if_neg (show ¬ (5 ≤ a ∧ a ≤ 16) by omega)]
      by_cases c7 : a = 17
      · rw [if_pos c7, if_pos c7]
      · rw [if_neg c7, if_neg c7]
  · simp only [if_neg c5, impl_TakesOf.j2, Bool.false_eq_true, if_false]
    rw [if_neg (by omega), if_neg (by omega), if_neg (by omega)]

def tmI (s : S74) : Tm := ⟨s.f0, s.f1⟩
theorem tmI_inj {a b : S74} (h : tmI a = tmI b) : a = b := by
  cases a; cases b; simp only [tmI, Tm.mk.injEq] at h; obtain ⟨h1, h2⟩ := h; subst h1; subst h2; rfl
theorem rdTm_drop (l : List S74) (i : Nat) (h : i < l.length) : l.drop i = rd_T74 l (i : Int) :: l.drop (i + 1) := by
  simp only [rd_T74, Int.toNat_natCast, List.getD_eq_getElem?_getD, List.getElem?_eq_getElem h, Option.getD_some]
  exact List.drop_eq_getElem_cons h
theorem rdTm_at (l : List S74) (i : Nat) (h : i < l.length) : rd_T74 l (i : Int) = l[i] := by
  simp only [rd_T74, Int.toNat_natCast, List.getD_eq_getElem?_getD, List.getElem?_eq_getElem h, Option.getD_some]

theorem specExpOk_l (x : List S74) (hl : x.length ≤ 3000) (d : Nat) : ∀ (i : Nat) (h : Int), i + d = x.length → 0 ≤ h → h ≤ i → Ev (fun k => spec_ExpOk.l0 k x h (i : Int)) (decide (hgt ((x.drop i).map tmI) h = some 1)) := by
  induction d with
  | zero =>
    intro i h hi h0 h1
    refine Ev.step (fun k => by rw [spec_ExpOk.l0]) ?_
    simp only [if_neg (show ¬ (i : Int) < (x.length : Int) by omega)]
    rw [List.drop_of_length_le (show x.length ≤ i by omega)]
    exact (Ev.now _).cast (by rw [Bool.eq_iff_iff]; simp [hgt])
  | succ d ih =>
    intro i h hi h0 h1
    refine Ev.step (fun k => by rw [spec_ExpOk.l0]) ?_
    rw [rdTm_drop x i (by omega), List.map_cons, hgt]
    generalize rd_T74 x (i : Int) = t
    have hr := tks_range t.f0
    have et : (tmI t).op = t.f0 := rfl
    have en : (tmI t).n = t.f1 := rfl
    simp only [if_pos (show (i : Int) < (x.length : Int) by omega), if_pos (show 0 ≤ (i : Int) by omega), specTakesOf_eq, l1In_eq, Option.bind_some, wrap_succ (show i < 9223372036854775807 by omega), et]
    by_cases c : tmOk (tmI t) ∧ tks t.f0 ≤ h
    · rw [if_pos c]
      obtain ⟨⟨c1, c2, c3, c4⟩, c5⟩ := c
      rw [et] at c1 c4
      rw [en] at c2 c3 c4
      have hn : (decide (0 ≤ t.f1) && decide (t.f1 ≤ 255)) = true := by simp; omega
      have hw : wrap64 (wrap64 (h - tks t.f0) + 1) = h + (1 - tks t.f0) := by rw [wrap_id (x := h - tks t.f0) (by omega) (by omega), wrap_id (by omega) (by omega)]; omega
      simp only [if_neg (show ¬ tks t.f0 < 0 by omega), if_neg (show ¬ tks t.f0 > h by omega), hn, if_true, hw]
      have hg := ih (i + 1) (h + (1 - tks t.f0)) (by omega) (by omega) (by omega)
      by_cases c6 : t.f0 > 2
      · simp only [if_pos c6, if_pos (c4 c6)]; exact hg
      · simp only [if_neg c6]; exact hg
    · rw [if_neg c]
      have cf : decide ((none : Option Int) = some 1) = false := by simp
      rw [cf]
      by_cases c1 : tks t.f0 < 0
      · simp only [if_pos c1]; exact Ev.now _
      by_cases c2 : tks t.f0 > h
      · simp only [if_neg c1, if_pos c2]; exact Ev.now _
      by_cases c3 : (decide (0 ≤ t.f1) && decide (t.f1 ≤ 255)) = true
      · have c3' : 0 ≤ t.f1 ∧ t.f1 ≤ 255 := by simpa using c3
        have c4 : t.f0 > 2 ∧ ¬ t.f1 = 0 := by
          refine Classical.byContradiction fun e => c ⟨⟨by rw [et]; omega, by rw [en]; omega, by rw [en]; omega, ?_⟩, by omega⟩
          rw [et, en]; intro e1
          exact Classical.byContradiction fun e2 => e ⟨e1, e2⟩
        simp only [if_neg c1, if_neg c2, c3, if_true, if_pos c4.1, if_neg c4.2]; exact Ev.now _
      · simp only [if_neg c1, if_neg c2, if_neg c3]; exact Ev.now _
theorem specExpOk_ev (x : List S74) (hl : x.length ≤ 1048576) : Ev (fun k => spec_ExpOk.f k x) (expOk (x.map tmI)) := by
  simp only [spec_ExpOk.f]
  by_cases h : (x.length : Int) > 3000
  · simp only [if_pos h]
    exact (Ev.now _).cast (by simp [expOk]; omega)
  · simp only [if_neg h]
    exact (specExpOk_l x (by omega) x.length 0 0 (by omega) (by omega) (by omega)).cast (by simp [expOk]; omega)
theorem implExpOk_l (x : List S74) (hl : x.length ≤ 3000) (d : Nat) : ∀ (i : Nat) (h : Int), i + d = x.length → 0 ≤ h → h ≤ i → Ev (fun k => impl_ExpOk.l0 k h x (x.length : Int) (i : Int)) (decide (hgt ((x.drop i).map tmI) h = some 1)) := by
  induction d with
  | zero =>
    intro i h hi h0 h1
    refine Ev.step (fun k => by rw [impl_ExpOk.l0]) ?_
    simp only [if_neg (show ¬ (i : Int) < (x.length : Int) by omega)]
    rw [List.drop_of_length_le (show x.length ≤ i by omega)]
    exact (Ev.now _).cast (by rw [Bool.eq_iff_iff]; simp [hgt])
  | succ d ih =>
    intro i h hi h0 h1
    refine Ev.step (fun k => by rw [impl_ExpOk.l0]) ?_
    rw [rdTm_drop x i (by omega), List.map_cons, hgt]
    generalize rd_T74 x (i : Int) = t
    have hr := tks_range t.f0
    have et : (tmI t).op = t.f0 := rfl
    have en : (tmI t).n = t.f1 := rfl
    simp only [if_pos (show (i : Int) < (x.length : Int) by omega), if_pos (show 0 ≤ (i : Int) by omega), wrap_succ (show i < 9223372036854775807 by omega), et]
    refine Ev.bind (implTakesOf_ev t.f0) ?_
    by_cases c : tmOk (tmI t) ∧ tks t.f0 ≤ h
    · rw [if_pos c]
      obtain ⟨⟨c1, c2, c3, c4⟩, c5⟩ := c
      rw [et] at c1 c4
      rw [en] at c2 c3 c4
      have hw : wrap64 (h + wrap64 (1 - tks t.f0)) = h + (1 - tks t.f0) := by rw [wrap_id (x := 1 - tks t.f0) (by omega) (by omega), wrap_id (by omega) (by omega)]
      simp only [if_neg (show ¬ tks t.f0 < 0 by omega), if_neg (show ¬ tks t.f0 > h by omega), if_neg (show ¬ t.f1 < 0 by omega), if_neg (show ¬ t.f1 > 255 by omega), hw]
      have hg := ih (i + 1) (h + (1 - tks t.f0)) (by omega) (by omega) (by omega)
      by_cases c6 : t.f0 > 2
      · simp only [if_pos c6, if_pos (c4 c6)]; exact hg
      · simp only [if_neg c6]; exact hg
    · rw [if_neg c]
      have cf : decide ((none : Option Int) = some 1) = false := by simp
      rw [cf]
      by_cases c1 : tks t.f0 < 0
      · simp only [if_pos c1]; exact Ev.now _
      by_cases c2 : tks t.f0 > h
      · simp only [if_neg c1, if_pos c2]; exact Ev.now _
      by_cases c3 : t.f1 < 0
      · simp only [if_neg c1, if_neg c2, if_pos c3]; exact Ev.now _
      by_cases c3' : t.f1 > 255
      · simp only [if_neg c1, if_neg c2, if_neg c3, if_pos c3']; exact Ev.now _
      have c4 : t.f0 > 2 ∧ ¬ t.f1 = 0 := by
        refine Classical.byContradiction fun e => c ⟨⟨by rw [et]; omega, by rw [en]; omega, by rw [en]; omega, ?_⟩, by omega⟩
        rw [et, en]; intro e1
        exact Classical.byContradiction fun e2 => e ⟨e1, e2⟩
      simp only [if_neg c1, if_neg c2, if_neg c3, if_neg c3', if_pos c4.1, if_neg c4.2]; exact Ev.now _
theorem implExpOk_ev (x : List S74) : Ev (fun k => impl_ExpOk.f k x) (expOk (x.map tmI)) := by
  simp only [impl_ExpOk.f]
  by_cases h0 : x.length = 0
  · simp only [if_pos (show (x.length : Int) = 0 by omega)]
    refine Ev.step (fun k => by rw [impl_ExpOk.j0]) ?_
    simp only [if_true]
    exact (Ev.now _).cast (by rw [List.length_eq_zero_iff.1 h0]; simp [expOk, hgt])
  · simp only [if_neg (show ¬ (x.length : Int) = 0 by omega)]
    refine Ev.step (fun k => by rw [impl_ExpOk.j0]) ?_
    by_cases h : (x.length : Int) > 3000
    · simp only [decide_eq_true h, if_true]
      exact (Ev.now _).cast (by simp [expOk]; omega)
    · simp only [decide_eq_false h, Bool.false_eq_true, if_false]
      exact (implExpOk_l x (by omega) x.length 0 0 (by omega) (by omega) (by omega)).cast (by simp [expOk]; omega)

def inL (s : S128) : S106 := ⟨s.f0, s.f1⟩
theorem rdIl_at (l : List S128) (i : Nat) (h : i < l.length) : rd_T128 l (i : Int) = l[i] := by
  simp only [rd_T128, Int.toNat_natCast, List.getD_eq_getElem?_getD, List.getElem?_eq_getElem h, Option.getD_some]
theorem szInputS_eq (l : List S128) (n : Int) (h0 : 0 ≤ n) (h1 : n ≤ 1048576) (hl : l.length ≤ 9223372036854775807) : laws_szInputS.f l n = some (if n - (l.length : Int) < 0 then -1 else n - (l.length : Int)) := by
  have hw : wrap64 (n - (l.length : Int)) = n - (l.length : Int) := wrap_id (by omega) (by omega)
  simp only [laws_szInputS.f, hw]
  split <;> rfl
theorem toInputS_l (l : List S128) (hl : l.length ≤ 1048576) (d : Nat) : ∀ (i : Nat) (x : List S106), i + d = l.length → x.length = l.length → (∀ j, j < i → x[j]? = (l.map inL)[j]?) → Ev (fun k => laws_toInputS.l0 k l x (i : Int)) (l.map inL) := by
  induction d with
  | zero =>
    intro i x hi hx ht
    refine Ev.step (fun k => by rw [laws_toInputS.l0]) ?_
    simp only [if_neg (show ¬ (i : Int) < (l.length : Int) by omega)]
    obtain rfl : x = l.map inL := ext_at (by simpa using hx) (fun j hj => ht j (by simp at hj; omega))
    exact Ev.now _
  | succ d ih =>
    intro i x hi hx ht
    refine Ev.step (fun k => by rw [laws_toInputS.l0]) ?_
    simp only [if_pos (show (i : Int) < (l.length : Int) by omega), if_pos (show 0 ≤ (i : Int) by omega), if_pos (show (i : Int) < (x.length : Int) by omega), wrap_succ (show i < 9223372036854775807 by omega), Int.toNat_natCast, laws_toInput.f, Option.bind_some]
    refine ih (i + 1) _ (by omega) (by simpa using hx) (fun j hj => ?_)
    rw [List.getElem?_set]
    by_cases e : i = j
    · subst e
      rw [if_pos rfl, if_pos (by omega), rdIl_at l i (by omega), List.getElem?_map, List.getElem?_eq_getElem (show i < l.length by omega)]
      rfl
    · rw [if_neg e]; exact ht j (by omega)
theorem toInputS_ev (l : List S128) (hl : l.length ≤ 1048576) : Ev (fun k => laws_toInputS.f k l) (l.map inL) := by
  simp only [laws_toInputS.f, if_pos (show 0 ≤ (l.length : Int) by omega), Int.toNat_natCast, if_pos (show l.length ≤ 17592186044416 by omega)]
  exact toInputS_l l hl l.length 0 _ (by omega) (by simp) (fun j hj => by omega)
theorem eqInputS_l (a : List S106) (ha : a.length ≤ 9223372036854775807) (d : Nat) : ∀ (i : Nat), i + d = a.length → Ev (fun k => laws_eqInputS.l0 k a a (i : Int)) true := by
  induction d with
  | zero =>
    intro i hi
    refine Ev.step (fun k => by rw [laws_eqInputS.l0]) ?_
    simp only [if_neg (show ¬ (i : Int) < (a.length : Int) by omega)]
    exact Ev.now _
  | succ d ih =>
    intro i hi
    refine Ev.step (fun k => by rw [laws_eqInputS.l0]) ?_
    simp only [if_pos (show (i : Int) < (a.length : Int) by omega), if_pos (show 0 ≤ (i : Int) by omega), wrap_succ (show i < 9223372036854775807 by omega), laws_eqInput.f, if_true, Option.bind_some]
    exact ih (i + 1) (by omega)
theorem eqInputS_same (a : List S106) (ha : a.length ≤ 9223372036854775807) : Ev (fun k => laws_eqInputS.f k a a) true := by
  simp only [laws_eqInputS.f, if_true]
  exact eqInputS_l a ha a.length 0 (by omega)
theorem rdIn_at (l : List S106) (i : Nat) (h : i < l.length) : rd_T106 l (i : Int) = l[i] := by
  simp only [rd_T106, Int.toNat_natCast, List.getD_eq_getElem?_getD, List.getElem?_eq_getElem h, Option.getD_some]
theorem rdIn_drop (l : List S106) (i : Nat) (h : i < l.length) : l.drop i = rd_T106 l (i : Int) :: l.drop (i + 1) := by
  rw [rdIn_at l i h, List.drop_eq_getElem_cons h]

theorem rdPg_ (y z : S36) (h : y = z) : rd_T36 [y] 0 = z := h
theorem rdPg (y : S36) : rd_T36 [y] 0 = y := rdPg_ y y (Eq.trans rfl rfl)
/-! Size, greatest, bits. -/
theorem pow8 (i : Nat) (h : i ≤ 8) : (2 : Nat) ^ i ≤ 256 := Nat.pow_le_pow_right (by omega) h
theorem l3Size_l (n : Nat) (hn : n ≤ 8) (a b : List S106) (t : Int) (c : List Int) (x : List S114) (d : Nat) : ∀ i : Nat, i + d = n → Ev (fun k => spec_l3Size.l0 k ((2 ^ i : Nat) : Int) (i : Int) (n : Int) a b t c x) ((2 ^ n : Nat) : Int) := by
  induction d with
  | zero =>
    intro i hi
    refine Ev.step (fun k => by rw [spec_l3Size.l0]) ?_
    simp only [if_neg (show ¬ (i : Int) < (n : Int) by omega)]
    exact (Ev.now _).cast (by rw [show i = n by omega])
  | succ d ih =>
    intro i hi
    refine Ev.step (fun k => by rw [spec_l3Size.l0]) ?_
    have h2 : wrap64 (((2 ^ i : Nat) : Int) * 2) = ((2 ^ (i + 1) : Nat) : Int) := by
      have := pow8 i (by omega)
      rw [Nat.pow_succ]
      generalize 2 ^ i = q at this ⊢
      rw [wrap_id (by omega) (by omega)]; omega
    simp only [if_pos (show (i : Int) < (n : Int) by omega), h2, wrap_succ (show i < 9223372036854775807 by omega)]
    exact ih (i + 1) (by omega)
theorem l3Size_ev (n : Nat) (hn : n ≤ 8) (a b : List S106) (t : Int) (c : List Int) (x : List S114) : Ev (fun k => spec_l3Size.f k (n : Int) a b t c x) ((2 ^ n : Nat) : Int) := by
  simp only [spec_l3Size.f]
  exact l3Size_l n hn a b t c x n 0 (by omega)
theorem shl_pow : ∀ n : Fin 9, shl .i64 1 ((n : Nat) : Int) = ((2 ^ (n : Nat) : Nat) : Int) := by decide
theorem greatest_eq (n : Nat) (hn : n ≤ 8) (a b : List S106) (t : Int) (c : List Int) (x : List S114) : impl_greatest.f [(⟨(n : Int), a, b, t, c, x⟩ : S36)] = some (((2 ^ n : Nat) : Int) - 1) := by
  have h1 := shl_pow ⟨n, by omega⟩
  have h2 := pow8 n hn
  simp only [impl_greatest.f, rdPg]
  simp only [if_pos (show 0 ≤ (n : Int) by omega)]
  rw [show shl .i64 1 (n : Int) = ((2 ^ n : Nat) : Int) from h1]
  generalize 2 ^ n = q at h2 ⊢
  rw [wrap_id (by omega) (by omega)]
/-- How many bits a number has. -/
def bl (m : Nat) : Nat := if m = 0 then 0 else m.log2 + 1
theorem bl_half (m : Nat) (h : 0 < m) : bl m = bl (m / 2) + 1 := by
  unfold bl
  rw [if_neg (by omega), Nat.log2_def]
  by_cases c : 2 ≤ m
  · rw [if_pos c, if_neg (by omega)]
  · rw [if_neg c, if_pos (by omega)]
theorem bl_le (d : Nat) : ∀ m : Nat, m < 2 ^ d → bl m ≤ d := by
  induction d with
  | zero => intro m h; have : m = 0 := by simpa using h
            subst this; simp [bl]
  | succ d ih =>
    intro m h
    by_cases c : m = 0
    · subst c; simp [bl]
    · rw [bl_half m (by omega)]
      have := ih (m / 2) (by rw [Nat.pow_succ] at h; omega)
      omega
theorem half_tdiv (m : Nat) (hm : m ≤ 1000) : wrap64 (Int.tdiv (m : Int) 2) = ((m / 2 : Nat) : Int) := by
  rw [show Int.tdiv (m : Int) 2 = ((m / 2 : Nat) : Int) from rfl, wrap_id (by omega) (by omega)]
theorem bits_l (d : Nat) : ∀ (m acc : Nat), m ≤ d → m ≤ 1000 → acc ≤ 1000000 - m → Ev (fun k => spec_l3Bits.l0 k (m : Int) (acc : Int)) ((acc + bl m : Nat) : Int) ∧ Ev (fun k => impl_bitsOf.l0 k (m : Int) (acc : Int)) ((acc + bl m : Nat) : Int) := by
  induction d with
  | zero =>
    intro m acc hd hm ha
    obtain rfl : m = 0 := by omega
    constructor
    · refine Ev.step (fun k => by rw [spec_l3Bits.l0]) ?_
      simp only [if_neg (show ¬ ((0 : Nat) : Int) > 0 by omega)]
      exact Ev.now _
    · refine Ev.step (fun k => by rw [impl_bitsOf.l0]) ?_
      simp only [if_neg (show ¬ ((0 : Nat) : Int) > 0 by omega)]
      exact Ev.now _
  | succ d ih =>
    intro m acc hd hm ha
    by_cases c : m = 0
    · subst c; exact ih 0 acc (by omega) (by omega) ha
    · have h := ih (m / 2) (acc + 1) (by omega) (by omega) (by omega)
      have e : acc + bl m = acc + 1 + bl (m / 2) := by rw [bl_half m (by omega)]; omega
      constructor
      · refine Ev.step (fun k => by rw [spec_l3Bits.l0]) ?_
        simp only [if_pos (show (m : Int) > 0 by omega), half_tdiv m hm, wrap_succ (show acc < 9223372036854775807 by omega)]
        exact h.1.cast (by rw [e])
      · refine Ev.step (fun k => by rw [impl_bitsOf.l0]) ?_
        simp only [if_pos (show (m : Int) > 0 by omega), half_tdiv m hm, wrap_succ (show acc < 9223372036854775807 by omega)]
        exact h.2.cast (by rw [e])
theorem specBits_ev (v : Int) (h0 : 0 ≤ v) (h1 : v ≤ 256) : Ev (fun k => spec_l3Bits.f k v) ((bl v.toNat : Nat) : Int) := by
  obtain ⟨m, rfl⟩ := Int.eq_ofNat_of_zero_le h0
  simp only [spec_l3Bits.f]
  exact ((bits_l m m 0 (by omega) (by omega) (by omega)).1).cast (by simp)
theorem implBits_ev (v : Int) (h0 : 0 ≤ v) (h1 : v ≤ 256) : Ev (fun k => impl_bitsOf.f k v) ((bl v.toNat : Nat) : Int) := by
  obtain ⟨m, rfl⟩ := Int.eq_ofNat_of_zero_le h0
  simp only [impl_bitsOf.f]
  exact ((bits_l m m 0 (by omega) (by omega) (by omega)).2).cast (by simp)
/-! Inputs. -/
def inOk (g : Int) (low : Bool) (e : S106) : Bool := decide (0 ≤ e.f0) && decide (e.f0 ≤ g) && (decide (0 ≤ e.f1) && decide (e.f1 ≤ 99)) && (!low || e.f1 == 0)
theorem inOk_iff {g : Int} {low : Bool} {e : S106} : inOk g low e = true ↔ 0 ≤ e.f0 ∧ e.f0 ≤ g ∧ 0 ≤ e.f1 ∧ e.f1 ≤ 99 ∧ (low = true → e.f1 = 0) := by
  cases low <;> simp [inOk, and_assoc]
def sumBits (l : List S106) : Nat := (l.map fun e => bl e.f0.toNat).sum
theorem sumBits_cons (e : S106) (l : List S106) : sumBits (e :: l) = bl e.f0.toNat + sumBits l := by simp [sumBits]
theorem sumBits_le (g : Int) (hg : g ≤ 255) (low : Bool) (l : List S106) (h : ∀ e ∈ l, inOk g low e = true) : sumBits l ≤ 8 * l.length := by
  induction l with
  | nil => simp [sumBits]
  | cons e l ih =>
    have h1 := inOk_iff.1 (h e (by simp))
    have h2 := ih (fun e' he => h e' (by simp [he]))
    have h3 := bl_le 8 e.f0.toNat (by omega)
    simp only [sumBits, List.map_cons, List.sum_cons, List.length_cons] at h2 ⊢
    omega
theorem specInputs_l (n : Nat) (hn : n ≤ 8) (a b : List S106) (t : Int) (c : List Int) (x : List S114) (l : List S106) (hl : l.length ≤ 1048576) (low : Bool) (d : Nat) : ∀ i : Nat, i + d = l.length → Ev (fun k => spec_l3Inputs.l0 k l low (i : Int) (n : Int) a b t c x) ((l.drop i).all (inOk (((2 ^ n : Nat) : Int) - 1) low) && decide (l.length ≤ 3)) := by
  have hp := pow8 n hn
  have hp1 : 1 ≤ 2 ^ n := Nat.one_le_two_pow
  induction d with
  | zero =>
    intro i hi
    refine Ev.step (fun k => by rw [spec_l3Inputs.l0]) ?_
    simp only [if_neg (show ¬ (i : Int) < (l.length : Int) by omega)]
    rw [List.drop_of_length_le (show l.length ≤ i by omega)]
    exact (Ev.now _).cast (by simp; omega)
  | succ d ih =>
    intro i hi
    refine Ev.step (fun k => by rw [spec_l3Inputs.l0]) ?_
    rw [rdIn_drop l i (by omega), List.all_cons]
    generalize rd_T106 l (i : Int) = e
    have no : inOk (((2 ^ n : Nat) : Int) - 1) low e = false → Ev (fun k => spec_l3Inputs.j1 k l low (i : Int) true (n : Int) a b t c x) ((inOk (((2 ^ n : Nat) : Int) - 1) low e && (l.drop (i + 1)).all (inOk (((2 ^ n : Nat) : Int) - 1) low)) && decide (l.length ≤ 3)) := by
      intro hh
      refine Ev.step (fun k => by rw [spec_l3Inputs.j1]) ?_
      simp only [if_true]
      exact (Ev.now _).cast (by rw [hh]; rfl)
    have yes : ∀ q : Bool, inOk (((2 ^ n : Nat) : Int) - 1) low e = !q → Ev (fun k => spec_l3Inputs.j1 k l low (i : Int) q (n : Int) a b t c x) ((inOk (((2 ^ n : Nat) : Int) - 1) low e && (l.drop (i + 1)).all (inOk (((2 ^ n : Nat) : Int) - 1) low)) && decide (l.length ≤ 3)) := by
      intro q hh
      cases q
      · refine Ev.step (fun k => by rw [spec_l3Inputs.j1]) ?_
        simp only [Bool.false_eq_true, if_false, wrap_succ (show i < 9223372036854775807 by omega)]
        exact (ih (i + 1) (by omega)).cast (by rw [hh]; simp)
      · exact no hh
    simp only [if_pos (show (i : Int) < (l.length : Int) by omega), if_pos (show 0 ≤ (i : Int) by omega)]
    refine Ev.bind (l3Size_ev n hn a b t c x) ?_
    simp only [l1In_eq, Option.bind_some, wrap_id (show -9223372036854775808 ≤ ((2 ^ n : Nat) : Int) - 1 by omega) (by omega)]
    by_cases c1 : (decide (0 ≤ e.f0) && decide (e.f0 ≤ ((2 ^ n : Nat) : Int) - 1)) = true
    · simp only [if_pos c1]
      by_cases c2 : (decide (0 ≤ e.f1) && decide (e.f1 ≤ 99)) = true
      · simp only [if_pos c2]
        cases low
        · simp only [Bool.false_eq_true, if_false]
          exact yes false (by simp only [inOk, c1, c2]; rfl)
        · simp only [if_true]
          refine yes _ ?_
          simp only [inOk, c1, c2]
          cases h : (e.f1 == 0) <;> simp [h, bne]
      · simp only [if_neg c2]
        refine no ?_
        rw [Bool.not_eq_true] at c2
        simp only [inOk, c2, Bool.and_false, Bool.false_and]
    · simp only [if_neg c1]
      refine no ?_
      rw [Bool.not_eq_true] at c1
      simp only [inOk, c1, Bool.false_and]
theorem specInputs_ev (n : Nat) (hn : n ≤ 8) (a b : List S106) (t : Int) (c : List Int) (x : List S114) (l : List S106) (hl : l.length ≤ 1048576) (low : Bool) : Ev (fun k => spec_l3Inputs.f k (n : Int) a b t c x l low) (l.all (inOk (((2 ^ n : Nat) : Int) - 1) low) && decide (l.length ≤ 3)) := by
  simp only [spec_l3Inputs.f]
  exact specInputs_l n hn a b t c x l hl low l.length 0 (by omega)
theorem specAllBits_l1 (g : Int) (hg : g ≤ 255) (w : Int) (a b : List S106) (t : Int) (c : List Int) (x : List S114) (low : Bool) (hb : ∀ e ∈ b, inOk g low e = true) (hl : b.length ≤ 3) (d : Nat) : ∀ i acc : Nat, i + d = b.length → acc + 8 * d ≤ 100 → Ev (fun k => spec_l3AllBits.l1 k (acc : Int) (i : Int) w a b t c x) ((acc + sumBits (b.drop i) : Nat) : Int) := by
  induction d with
  | zero =>
    intro i acc hi ha
    refine Ev.step (fun k => by rw [spec_l3AllBits.l1]) ?_
    simp only [if_neg (show ¬ (i : Int) < (b.length : Int) by omega)]
    rw [List.drop_of_length_le (show b.length ≤ i by omega)]
    exact (Ev.now _).cast (by simp [sumBits])
  | succ d ih =>
    intro i acc hi ha
    refine Ev.step (fun k => by rw [spec_l3AllBits.l1]) ?_
    have hm : b[i] ∈ b := List.getElem_mem _
    have h1 := inOk_iff.1 (hb _ hm)
    have h3 := bl_le 8 b[i].f0.toNat (by omega)
    simp only [if_pos (show (i : Int) < (b.length : Int) by omega), if_pos (show 0 ≤ (i : Int) by omega)]
    rw [rdIn_drop b i (by omega)]
    simp only [rdIn_at b i (by omega)]
    refine Ev.bind (specBits_ev _ h1.1 (by omega)) ?_
    rw [show wrap64 ((acc : Int) + ((bl b[i].f0.toNat : Nat) : Int)) = ((acc + bl b[i].f0.toNat : Nat) : Int) by rw [wrap_id (by omega) (by omega)]; omega]
    simp only [wrap_succ (show i < 9223372036854775807 by omega)]
    exact (ih (i + 1) (acc + bl b[i].f0.toNat) (by omega) (by omega)).cast (by simp only [sumBits, List.map_cons, List.sum_cons]; omega)
theorem specAllBits_l0 (g : Int) (hg : g ≤ 255) (w : Int) (a b : List S106) (t : Int) (c : List Int) (x : List S114) (ha : ∀ e ∈ a, inOk g true e = true) (hb : ∀ e ∈ b, inOk g false e = true) (hal : a.length ≤ 3) (hbl : b.length ≤ 3) (d : Nat) : ∀ i acc : Nat, i + d = a.length → acc + 8 * d ≤ 50 → Ev (fun k => spec_l3AllBits.l0 k (acc : Int) (i : Int) w a b t c x) ((acc + sumBits (a.drop i) + sumBits b : Nat) : Int) := by
  induction d with
  | zero =>
    intro i acc hi hac
    refine Ev.step (fun k => by rw [spec_l3AllBits.l0]) ?_
    simp only [if_neg (show ¬ (i : Int) < (a.length : Int) by omega)]
    rw [List.drop_of_length_le (show a.length ≤ i by omega)]
    exact (specAllBits_l1 g hg w a b t c x false hb hbl b.length 0 acc (by omega) (by omega)).cast (by simp [sumBits])
  | succ d ih =>
    intro i acc hi hac
    refine Ev.step (fun k => by rw [spec_l3AllBits.l0]) ?_
    have hm : a[i] ∈ a := List.getElem_mem _
    have h1 := inOk_iff.1 (ha _ hm)
    have h3 := bl_le 8 a[i].f0.toNat (by omega)
    simp only [if_pos (show (i : Int) < (a.length : Int) by omega), if_pos (show 0 ≤ (i : Int) by omega)]
    rw [rdIn_drop a i (by omega)]
    simp only [rdIn_at a i (by omega)]
    refine Ev.bind (specBits_ev _ h1.1 (by omega)) ?_
    rw [show wrap64 ((acc : Int) + ((bl a[i].f0.toNat : Nat) : Int)) = ((acc + bl a[i].f0.toNat : Nat) : Int) by rw [wrap_id (by omega) (by omega)]; omega]
    simp only [wrap_succ (show i < 9223372036854775807 by omega)]
    exact (ih (i + 1) (acc + bl a[i].f0.toNat) (by omega) (by omega)).cast (by simp only [sumBits, List.map_cons, List.sum_cons]; omega)
theorem implInput_l1 (n : Nat) (hn : n ≤ 8) (a b : List S106) (t : Int) (c : List Int) (x : List S114) (l : List S106) (hl : l.length ≤ 3) (d : Nat) : ∀ i acc : Nat, i + d = l.length → acc + 8 * d ≤ 100 → Ev (fun k => impl_inputRight.l1 k [(⟨(n : Int), a, b, t, c, x⟩ : S36)] (acc : Int) l (l.length : Int) (i : Int)) ((l.drop i).all (inOk (((2 ^ n : Nat) : Int) - 1) false) && decide (acc + sumBits (l.drop i) ≤ 10)) := by
  have hp := pow8 n hn
  induction d with
  | zero =>
    intro i acc hi ha
    refine Ev.step (fun k => by rw [impl_inputRight.l1]) ?_
    try simp only [rdPg]
    simp only [if_neg (show ¬ (i : Int) < (l.length : Int) by omega)]
    rw [List.drop_of_length_le (show l.length ≤ i by omega)]
    exact (Ev.now _).cast (by simp [sumBits]; omega)
  | succ d ih =>
    intro i acc hi ha
    refine Ev.step (fun k => by rw [impl_inputRight.l1]) ?_
    try simp only [rdPg]
    rw [rdIn_drop l i (by omega), List.all_cons]
    generalize rd_T106 l (i : Int) = e
    have no : ∀ u v : Int, inOk (((2 ^ n : Nat) : Int) - 1) false e = false → Ev (fun k => impl_inputRight.j4 k [(⟨(n : Int), a, b, t, c, x⟩ : S36)] (acc : Int) l (l.length : Int) (i : Int) true u v) ((inOk (((2 ^ n : Nat) : Int) - 1) false e && (l.drop (i + 1)).all (inOk (((2 ^ n : Nat) : Int) - 1) false)) && decide (acc + sumBits (e :: l.drop (i + 1)) ≤ 10)) := by
      intro u v hh
      refine Ev.step (fun k => by rw [impl_inputRight.j4]) ?_
      try simp only [rdPg]
      simp only [if_true]
      exact (Ev.now _).cast (by rw [hh]; rfl)
    simp only [if_pos (show (i : Int) < (l.length : Int) by omega), if_pos (show 0 ≤ (i : Int) by omega), greatest_eq n hn, Option.bind_some]
    by_cases c1 : e.f0 < 0
    · simp only [if_pos c1]
      exact no _ _ (by rw [← Bool.not_eq_true, inOk_iff]; omega)
    by_cases c2 : e.f0 > ((2 ^ n : Nat) : Int) - 1
    · simp only [if_neg c1, if_pos c2]
      exact no _ _ (by rw [← Bool.not_eq_true, inOk_iff]; omega)
    by_cases c3 : e.f1 < 0
    · simp only [if_neg c1, if_neg c2, if_pos c3]
      exact no _ _ (by rw [← Bool.not_eq_true, inOk_iff]; omega)
    simp only [if_neg c1, if_neg c2, if_neg c3]
    by_cases c4 : e.f1 > 99
    · simp only [decide_eq_true c4]
      exact no _ _ (by rw [← Bool.not_eq_true, inOk_iff]; omega)
    simp only [decide_eq_false c4]
    have hok : inOk (((2 ^ n : Nat) : Int) - 1) false e = true := inOk_iff.2 ⟨by omega, by omega, by omega, by omega, fun h => by cases h⟩
    have h3 := bl_le 8 e.f0.toNat (by omega)
    refine Ev.step (fun k => by rw [impl_inputRight.j4]) ?_
    try simp only [rdPg]
    simp only [Bool.false_eq_true, if_false]
    refine Ev.bind (implBits_ev _ (by omega) (by omega)) ?_
    rw [show wrap64 ((acc : Int) + ((bl e.f0.toNat : Nat) : Int)) = ((acc + bl e.f0.toNat : Nat) : Int) by rw [wrap_id (by omega) (by omega)]; omega]
    simp only [wrap_succ (show i < 9223372036854775807 by omega)]
    exact (ih (i + 1) (acc + bl e.f0.toNat) (by omega) (by omega)).cast (by rw [hok, sumBits_cons, Bool.true_and, Nat.add_assoc acc (bl e.f0.toNat)])
theorem implInput_l0 (n : Nat) (hn : n ≤ 8) (a b : List S106) (t : Int) (c : List Int) (x : List S114) (hb : b.length ≤ 3) (l : List S106) (hl : l.length ≤ 3) (d : Nat) : ∀ i acc : Nat, i + d = l.length → acc + 8 * d ≤ 50 → Ev (fun k => impl_inputRight.l0 k [(⟨(n : Int), a, b, t, c, x⟩ : S36)] (acc : Int) l (l.length : Int) (i : Int)) ((l.drop i).all (inOk (((2 ^ n : Nat) : Int) - 1) true) && (b.all (inOk (((2 ^ n : Nat) : Int) - 1) false) && decide (acc + sumBits (l.drop i) + sumBits b ≤ 10))) := by
  have hp := pow8 n hn
  induction d with
  | zero =>
    intro i acc hi ha
    refine Ev.step (fun k => by rw [impl_inputRight.l0]) ?_
    try simp only [rdPg]
    simp only [if_neg (show ¬ (i : Int) < (l.length : Int) by omega)]
    rw [List.drop_of_length_le (show l.length ≤ i by omega)]
    exact (implInput_l1 n hn a b t c x b hb b.length 0 acc (by omega) (by omega)).cast (by simp [sumBits])
  | succ d ih =>
    intro i acc hi ha
    refine Ev.step (fun k => by rw [impl_inputRight.l0]) ?_
    try simp only [rdPg]
    rw [rdIn_drop l i (by omega), List.all_cons]
    generalize rd_T106 l (i : Int) = e
    have no : ∀ u v : Int, inOk (((2 ^ n : Nat) : Int) - 1) true e = false → Ev (fun k => impl_inputRight.j2 k [(⟨(n : Int), a, b, t, c, x⟩ : S36)] (acc : Int) l (l.length : Int) (i : Int) true u v) ((inOk (((2 ^ n : Nat) : Int) - 1) true e && (l.drop (i + 1)).all (inOk (((2 ^ n : Nat) : Int) - 1) true)) && (b.all (inOk (((2 ^ n : Nat) : Int) - 1) false) && decide (acc + sumBits (e :: l.drop (i + 1)) + sumBits b ≤ 10))) := by
      intro u v hh
      refine Ev.step (fun k => by rw [impl_inputRight.j2]) ?_
      try simp only [rdPg]
      simp only [if_true]
      exact (Ev.now _).cast (by rw [hh]; rfl)
    simp only [if_pos (show (i : Int) < (l.length : Int) by omega), if_pos (show 0 ≤ (i : Int) by omega), greatest_eq n hn, Option.bind_some]
    by_cases c1 : e.f0 < 0
    · simp only [if_pos c1]
      exact no _ _ (by rw [← Bool.not_eq_true, inOk_iff]; omega)
    by_cases c2 : e.f0 > ((2 ^ n : Nat) : Int) - 1
    · simp only [if_neg c1, if_pos c2]
      exact no _ _ (by rw [← Bool.not_eq_true, inOk_iff]; omega)
    simp only [if_neg c1, if_neg c2]
    by_cases c4 : e.f1 = 0
    · have hok : inOk (((2 ^ n : Nat) : Int) - 1) true e = true := inOk_iff.2 ⟨by omega, by omega, by omega, by omega, fun _ => c4⟩
      have h3 := bl_le 8 e.f0.toNat (by omega)
      simp only [c4, bne_self_eq_false]
      refine Ev.step (fun k => by rw [impl_inputRight.j2]) ?_
      try simp only [rdPg]
      simp only [Bool.false_eq_true, if_false]
      refine Ev.bind (implBits_ev _ (by omega) (by omega)) ?_
      rw [show wrap64 ((acc : Int) + ((bl e.f0.toNat : Nat) : Int)) = ((acc + bl e.f0.toNat : Nat) : Int) by rw [wrap_id (by omega) (by omega)]; omega]
      simp only [wrap_succ (show i < 9223372036854775807 by omega)]
      exact (ih (i + 1) (acc + bl e.f0.toNat) (by omega) (by omega)).cast (by rw [hok, sumBits_cons, Bool.true_and, Nat.add_assoc acc (bl e.f0.toNat)])
    · simp only [bne_iff_ne.2 c4]
      exact no _ _ (by rw [← Bool.not_eq_true, inOk_iff]; intro h; exact c4 (h.2.2.2.2 rfl))
/-- The inputs are right. -/
def insOk (n : Nat) (a b : List S106) : Bool := decide (a.length ≤ 3) && decide (b.length ≤ 3) && (a.all (inOk (((2 ^ n : Nat) : Int) - 1) true) && (b.all (inOk (((2 ^ n : Nat) : Int) - 1) false) && decide (sumBits a + sumBits b ≤ 10)))
theorem implInput_ev (n : Nat) (hn : n ≤ 8) (a b : List S106) (t : Int) (c : List Int) (x : List S114) : Ev (fun k => impl_inputRight.f k [(⟨(n : Int), a, b, t, c, x⟩ : S36)]) (insOk n a b) := by
  simp only [impl_inputRight.f, rdPg]
  have no : (decide (a.length ≤ 3) && decide (b.length ≤ 3)) = false → Ev (fun k => impl_inputRight.j0 k [(⟨(n : Int), a, b, t, c, x⟩ : S36)] true) (insOk n a b) := by
    intro h
    refine Ev.step (fun k => by rw [impl_inputRight.j0]) ?_
    try simp only [rdPg]
    simp only [if_true]
    exact (Ev.now _).cast (by rw [insOk, h]; rfl)
  by_cases c1 : (a.length : Int) > 3
  · simp only [if_pos c1]; exact no (by simp; omega)
  simp only [if_neg c1]
  by_cases c2 : (b.length : Int) > 3
  · simp only [decide_eq_true c2]; exact no (by simp; omega)
  simp only [decide_eq_false c2]
  refine Ev.step (fun k => by rw [impl_inputRight.j0]) ?_
  try simp only [rdPg]
  simp only [Bool.false_eq_true, if_false]
  exact (implInput_l0 n hn a b t c x (by omega) a (by omega) a.length 0 0 (by omega) (by omega)).cast (by simp only [insOk, decide_eq_true (show a.length ≤ 3 by omega), decide_eq_true (show b.length ≤ 3 by omega), Bool.true_and, List.drop_zero, Nat.zero_add])
/-! Room. -/
def cellOk (v : Int) : Bool := decide (1 ≤ v) && decide (v ≤ 6)
def roomOk (t : Int) (c : List Int) (x : List S114) : Bool := (decide (0 ≤ t) && decide (t ≤ 6)) && (decide (c.length ≤ 2) && (decide (x.length ≤ 40) && c.all cellOk))
theorem specRoom_l0 (w : Int) (a b : List S106) (t : Int) (c : List Int) (x : List S114) (hc : c.length ≤ 1048576) (d : Nat) : ∀ i : Nat, i + d = c.length → Ev (fun k => spec_l3Room.l0 k (i : Int) w a b t c x) ((c.drop i).all cellOk) := by
  induction d with
  | zero =>
    intro i hi
    refine Ev.step (fun k => by rw [spec_l3Room.l0]) ?_
    simp only [if_neg (show ¬ (i : Int) < (c.length : Int) by omega)]
    rw [List.drop_of_length_le (show c.length ≤ i by omega)]
    exact Ev.now _
  | succ d ih =>
    intro i hi
    refine Ev.step (fun k => by rw [spec_l3Room.l0]) ?_
    rw [drop_rd c i (by omega), List.all_cons]
    simp only [if_pos (show (i : Int) < (c.length : Int) by omega), if_pos (show 0 ≤ (i : Int) by omega), l1In_eq, Option.bind_some, wrap_succ (show i < 9223372036854775807 by omega)]
    by_cases h : (decide (1 ≤ rd c (i : Int)) && decide (rd c (i : Int) ≤ 6)) = true
    · simp only [if_pos h]
      exact (ih (i + 1) (by omega)).cast (by rw [cellOk, h, Bool.true_and])
    · simp only [if_neg h]
      exact (Ev.now _).cast (by rw [Bool.not_eq_true] at h; rw [cellOk, h, Bool.false_and])
theorem implRoom_l0 (c : List Int) (hc : c.length ≤ 1048576) (d : Nat) : ∀ i : Nat, i + d = c.length → Ev (fun k => impl_roomRight.l0 k c (c.length : Int) (i : Int)) ((c.drop i).all cellOk) := by
  induction d with
  | zero =>
    intro i hi
    refine Ev.step (fun k => by rw [impl_roomRight.l0]) ?_
    try simp only [rdPg]
    simp only [if_neg (show ¬ (i : Int) < (c.length : Int) by omega)]
    rw [List.drop_of_length_le (show c.length ≤ i by omega)]
    exact Ev.now _
  | succ d ih =>
    intro i hi
    refine Ev.step (fun k => by rw [impl_roomRight.l0]) ?_
    try simp only [rdPg]
    rw [drop_rd c i (by omega), List.all_cons]
    simp only [if_pos (show (i : Int) < (c.length : Int) by omega), if_pos (show 0 ≤ (i : Int) by omega), wrap_succ (show i < 9223372036854775807 by omega)]
    by_cases h1 : rd c (i : Int) < 1
    · simp only [if_pos h1]
      exact (Ev.now _).cast (by rw [cellOk, decide_eq_false (show ¬ 1 ≤ rd c (i : Int) by omega)]; rfl)
    by_cases h2 : rd c (i : Int) > 6
    · simp only [if_neg h1, if_pos h2]
      exact (Ev.now _).cast (by rw [cellOk, decide_eq_false (show ¬ rd c (i : Int) ≤ 6 by omega), Bool.and_false]; rfl)
    simp only [if_neg h1, if_neg h2]
    exact (ih (i + 1) (by omega)).cast (by rw [cellOk, decide_eq_true (show 1 ≤ rd c (i : Int) by omega), decide_eq_true (show rd c (i : Int) ≤ 6 by omega)]; rfl)
theorem specRoom_ev (w : Int) (a b : List S106) (t : Int) (c : List Int) (x : List S114) : Ev (fun k => spec_l3Room.f k w a b t c x) (roomOk t c x) := by
  simp only [spec_l3Room.f, l1In_eq, Option.bind_some]
  have no : ∀ r : Bool, r = false → Ev (fun k => spec_l3Room.j0 k true w a b t c x) r := by
    intro r hr
    subst hr
    refine Ev.step (fun k => by rw [spec_l3Room.j0]) ?_
    simp only [if_true]; exact Ev.now _
  by_cases h1 : (decide (0 ≤ t) && decide (t ≤ 6)) = true
  · simp only [if_pos h1]
    by_cases h2 : (c.length : Int) > 2
    · simp only [if_pos h2]
      exact no _ (by rw [roomOk, decide_eq_false (show ¬ c.length ≤ 2 by omega), Bool.false_and, Bool.and_false])
    simp only [if_neg h2]
    by_cases h3 : (x.length : Int) > 40
    · simp only [decide_eq_true h3]
      exact no _ (by rw [roomOk, decide_eq_false (show ¬ x.length ≤ 40 by omega), Bool.false_and, Bool.and_false, Bool.and_false])
    simp only [decide_eq_false h3]
    refine Ev.step (fun k => by rw [spec_l3Room.j0]) ?_
    simp only [Bool.false_eq_true, if_false]
    exact (specRoom_l0 w a b t c x (by omega) c.length 0 (by omega)).cast (by rw [roomOk, h1, decide_eq_true (show c.length ≤ 2 by omega), decide_eq_true (show x.length ≤ 40 by omega)]; rfl)
  · simp only [if_neg h1]
    exact no _ (by rw [Bool.not_eq_true] at h1; rw [roomOk, h1, Bool.false_and])
theorem implRoom_ev (w : Int) (a b : List S106) (t : Int) (c : List Int) (x : List S114) : Ev (fun k => impl_roomRight.f k [(⟨w, a, b, t, c, x⟩ : S36)]) (roomOk t c x) := by
  simp only [impl_roomRight.f, rdPg]
  have no : ∀ r : Bool, r = false → Ev (fun k => impl_roomRight.j0 k [(⟨w, a, b, t, c, x⟩ : S36)] true) r := by
    intro r hr
    subst hr
    refine Ev.step (fun k => by rw [impl_roomRight.j0]) ?_
    try simp only [rdPg]
    simp only [if_true]; exact Ev.now _
  by_cases h0 : t < 0
  · simp only [if_pos h0]
    exact no _ (by rw [roomOk, decide_eq_false (show ¬ 0 ≤ t by omega), Bool.false_and, Bool.false_and])
  by_cases h1 : t > 6
  · simp only [if_neg h0, if_pos h1]
    exact no _ (by rw [roomOk, decide_eq_false (show ¬ t ≤ 6 by omega), Bool.and_false, Bool.false_and])
  by_cases h2 : (c.length : Int) > 2
  · simp only [if_neg h0, if_neg h1, if_pos h2]
    exact no _ (by rw [roomOk, decide_eq_false (show ¬ c.length ≤ 2 by omega), Bool.false_and, Bool.and_false])
  simp only [if_neg h0, if_neg h1, if_neg h2]
  by_cases h3 : (x.length : Int) > 40
  · simp only [decide_eq_true h3]
    exact no _ (by rw [roomOk, decide_eq_false (show ¬ x.length ≤ 40 by omega), Bool.false_and, Bool.and_false, Bool.and_false])
  simp only [decide_eq_false h3]
  refine Ev.step (fun k => by rw [impl_roomRight.j0]) ?_
  try simp only [rdPg]
  simp only [Bool.false_eq_true, if_false]
  exact (implRoom_l0 c (by omega) c.length 0 (by omega)).cast (by rw [roomOk, decide_eq_true (show 0 ≤ t by omega), decide_eq_true (show t ≤ 6 by omega), decide_eq_true (show c.length ≤ 2 by omega), decide_eq_true (show x.length ≤ 40 by omega)]; rfl)
/-! Expressions. -/
def nmOk (g v r : Int) (e : S74) : Bool := if e.f0 = 0 then decide (e.f1 ≤ g) else if e.f0 = 1 then decide (e.f1 < v) else if e.f0 = 2 then decide (e.f1 < r) else true
def expR (g v r : Int) (l : List S74) : Bool := decide (l.length ≤ 40) && ((l.all fun e => !(e.f0 == 17)) && (expOk (l.map tmI) && l.all (nmOk g v r)))
theorem expR_pos {g v r : Int} {l : List S74} (h : expR g v r l = true) : 0 < l.length := by
  cases l with
  | nil => simp [expR, expOk, hgt] at h
  | cons e l => simp
theorem specVars_eq (w : Int) (a b : List S106) (t : Int) (c : List Int) (x : List S114) (ha : a.length ≤ 3) (hb : b.length ≤ 3) (h0 : 0 ≤ t) (h1 : t ≤ 6) : spec_l3Vars.f w a b t c x = some ((a.length : Int) + (b.length : Int) + t) := by
  simp only [spec_l3Vars.f]
  rw [wrap_id (x := (a.length : Int) + (b.length : Int)) (by omega) (by omega), wrap_id (by omega) (by omega)]
theorem implInputs_eq (w : Int) (a b : List S106) (t : Int) (c : List Int) (x : List S114) (ha : a.length ≤ 3) (hb : b.length ≤ 3) : impl_inputsOf.f [(⟨w, a, b, t, c, x⟩ : S36)] = some ((a.length : Int) + (b.length : Int)) := by
  simp only [impl_inputsOf.f, rdPg]
  rw [wrap_id (x := (a.length : Int) + (b.length : Int)) (by omega) (by omega)]
theorem implVars_eq (w : Int) (a b : List S106) (t : Int) (c : List Int) (x : List S114) (ha : a.length ≤ 3) (hb : b.length ≤ 3) (h0 : 0 ≤ t) (h1 : t ≤ 6) : impl_varsOf.f [(⟨w, a, b, t, c, x⟩ : S36)] = some ((a.length : Int) + (b.length : Int) + t) := by
  simp only [impl_varsOf.f, rdPg]
  simp only [implInputs_eq w a b t c x ha hb, Option.bind_some]
  rw [wrap_id (by omega) (by omega)]
/-- The variables that there are. -/
def vrs (a b : List S106) (t : Int) : Int := (a.length : Int) + (b.length : Int) + t
theorem specNames_l (n : Nat) (hn : n ≤ 8) (a b : List S106) (t : Int) (c : List Int) (x : List S114) (ha : a.length ≤ 3) (hb : b.length ≤ 3) (h0 : 0 ≤ t) (h1 : t ≤ 6) (l : List S74) (hl : l.length ≤ 1048576) (d : Nat) : ∀ i : Nat, i + d = l.length → Ev (fun k => spec_l3Names.l0 k l (i : Int) (n : Int) a b t c x) ((l.drop i).all (nmOk (((2 ^ n : Nat) : Int) - 1) (vrs a b t) (c.length : Int))) := by
  induction d with
  | zero =>
    intro i hi
    refine Ev.step (fun k => by rw [spec_l3Names.l0]) ?_
    simp only [if_neg (show ¬ (i : Int) < (l.length : Int) by omega)]
    rw [List.drop_of_length_le (show l.length ≤ i by omega)]
    exact Ev.now _
  | succ d ih =>
    intro i hi
    have ih' := ih (i + 1) (by omega)
    refine Ev.step (fun k => by rw [spec_l3Names.l0]) ?_
    rw [rdTm_drop l i (by omega), List.all_cons]
    generalize rd_T74 l (i : Int) = e
    simp only [if_pos (show (i : Int) < (l.length : Int) by omega), if_pos (show 0 ≤ (i : Int) by omega), specVars_eq (n : Int) a b t c x ha hb h0 h1, Option.bind_some, wrap_succ (show i < 9223372036854775807 by omega)]
    by_cases c0 : e.f0 = 0
    · simp only [if_pos c0]
      refine Ev.bind (l3Size_ev n hn a b t c x) ?_
      by_cases cc : e.f1 ≥ ((2 ^ n : Nat) : Int)
      · simp only [if_pos cc]
        exact (Ev.now _).cast (by rw [nmOk, if_pos c0, decide_eq_false (show ¬ e.f1 ≤ ((2 ^ n : Nat) : Int) - 1 by omega), Bool.false_and])
      · simp only [if_neg cc]
        exact ih'.cast (by rw [nmOk, if_pos c0, decide_eq_true (show e.f1 ≤ ((2 ^ n : Nat) : Int) - 1 by omega), Bool.true_and])
    by_cases c1 : e.f0 = 1
    · simp only [if_neg c0, if_pos c1]
      by_cases cc : e.f1 ≥ (a.length : Int) + (b.length : Int) + t
      · simp only [if_pos cc]
        exact (Ev.now _).cast (by rw [nmOk, if_neg c0, if_pos c1, decide_eq_false (show ¬ e.f1 < vrs a b t by unfold vrs; omega), Bool.false_and])
      · simp only [if_neg cc]
        exact ih'.cast (by rw [nmOk, if_neg c0, if_pos c1, decide_eq_true (show e.f1 < vrs a b t by unfold vrs; omega), Bool.true_and])
    by_cases c2 : e.f0 = 2
    · simp only [if_neg c0, if_neg c1, if_pos c2]
      by_cases cc : e.f1 ≥ (c.length : Int)
      · simp only [if_pos cc]
        exact (Ev.now _).cast (by rw [nmOk, if_neg c0, if_neg c1, if_pos c2, decide_eq_false (show ¬ e.f1 < (c.length : Int) by omega), Bool.false_and])
      · simp only [if_neg cc]
        exact ih'.cast (by rw [nmOk, if_neg c0, if_neg c1, if_pos c2, decide_eq_true (show e.f1 < (c.length : Int) by omega), Bool.true_and])
    simp only [if_neg c0, if_neg c1, if_neg c2]
    exact ih'.cast (by rw [nmOk, if_neg c0, if_neg c1, if_neg c2, Bool.true_and])
theorem implReck_l (n : Nat) (hn : n ≤ 8) (a b : List S106) (t : Int) (c : List Int) (x : List S114) (ha : a.length ≤ 3) (hb : b.length ≤ 3) (h0 : 0 ≤ t) (h1 : t ≤ 6) (l : List S74) (hl : l.length ≤ 1048576) (d : Nat) : ∀ i : Nat, i + d = l.length → Ev (fun k => impl_reckonable.l0 k [(⟨(n : Int), a, b, t, c, x⟩ : S36)] l (l.length : Int) (i : Int)) ((l.drop i).all (nmOk (((2 ^ n : Nat) : Int) - 1) (vrs a b t) (c.length : Int))) := by
  induction d with
  | zero =>
    intro i hi
    refine Ev.step (fun k => by rw [impl_reckonable.l0]) ?_
    try simp only [rdPg]
    simp only [if_neg (show ¬ (i : Int) < (l.length : Int) by omega)]
    rw [List.drop_of_length_le (show l.length ≤ i by omega)]
    exact Ev.now _
  | succ d ih =>
    intro i hi
    have ih' := ih (i + 1) (by omega)
    refine Ev.step (fun k => by rw [impl_reckonable.l0]) ?_
    try simp only [rdPg]
    rw [rdTm_drop l i (by omega), List.all_cons]
    generalize rd_T74 l (i : Int) = e
    simp only [if_pos (show (i : Int) < (l.length : Int) by omega), if_pos (show 0 ≤ (i : Int) by omega), implVars_eq (n : Int) a b t c x ha hb h0 h1, greatest_eq n hn, Option.bind_some, wrap_succ (show i < 9223372036854775807 by omega)]
    by_cases c0 : e.f0 = 0
    · simp only [if_pos c0]
      by_cases cc : e.f1 > ((2 ^ n : Nat) : Int) - 1
      · simp only [if_pos cc]
        exact (Ev.now _).cast (by rw [nmOk, if_pos c0, decide_eq_false (show ¬ e.f1 ≤ ((2 ^ n : Nat) : Int) - 1 by omega), Bool.false_and])
      · simp only [if_neg cc]
        exact ih'.cast (by rw [nmOk, if_pos c0, decide_eq_true (show e.f1 ≤ ((2 ^ n : Nat) : Int) - 1 by omega), Bool.true_and])
    by_cases c1 : e.f0 = 1
    · simp only [if_neg c0, if_pos c1]
      by_cases cc : e.f1 ≥ (a.length : Int) + (b.length : Int) + t
      · simp only [if_pos cc]
        exact (Ev.now _).cast (by rw [nmOk, if_neg c0, if_pos c1, decide_eq_false (show ¬ e.f1 < vrs a b t by unfold vrs; omega), Bool.false_and])
      · simp only [if_neg cc]
        exact ih'.cast (by rw [nmOk, if_neg c0, if_pos c1, decide_eq_true (show e.f1 < vrs a b t by unfold vrs; omega), Bool.true_and])
    by_cases c2 : e.f0 = 2
    · simp only [if_neg c0, if_neg c1, if_pos c2]
      by_cases cc : e.f1 ≥ (c.length : Int)
      · simp only [if_pos cc]
        exact (Ev.now _).cast (by rw [nmOk, if_neg c0, if_neg c1, if_pos c2, decide_eq_false (show ¬ e.f1 < (c.length : Int) by omega), Bool.false_and])
      · simp only [if_neg cc]
        exact ih'.cast (by rw [nmOk, if_neg c0, if_neg c1, if_pos c2, decide_eq_true (show e.f1 < (c.length : Int) by omega), Bool.true_and])
    simp only [if_neg c0, if_neg c1, if_neg c2]
    exact ih'.cast (by rw [nmOk, if_neg c0, if_neg c1, if_neg c2, Bool.true_and])
/-- What is known of a Prog whose inputs and room are right. -/
structure Rt (n : Nat) (a b : List S106) (t : Int) : Prop where
  hn : n ≤ 8
  ha : a.length ≤ 3
  hb : b.length ≤ 3
  h0 : 0 ≤ t
  h1 : t ≤ 6
def exR (n : Nat) (a b : List S106) (t : Int) (c : List Int) (l : List S74) : Bool := expR (((2 ^ n : Nat) : Int) - 1) (vrs a b t) (c.length : Int) l
theorem specNames_ev {n : Nat} {a b : List S106} {t : Int} (h : Rt n a b t) (c : List Int) (x : List S114) (l : List S74) (hl : l.length ≤ 1048576) : Ev (fun k => spec_l3Names.f k (n : Int) a b t c x l) (expOk (l.map tmI) && l.all (nmOk (((2 ^ n : Nat) : Int) - 1) (vrs a b t) (c.length : Int))) := by
  simp only [spec_l3Names.f]
  refine Ev.bind (specExpOk_ev l hl) ?_
  by_cases e : expOk (l.map tmI) = true
  · simp only [if_pos e]
    exact (specNames_l n h.hn a b t c x h.ha h.hb h.h0 h.h1 l hl l.length 0 (by omega)).cast (by rw [e, List.drop_zero, Bool.true_and])
  · simp only [if_neg e]
    exact (Ev.now _).cast (by rw [Bool.not_eq_true] at e; rw [e, Bool.false_and])
theorem implReck_ev {n : Nat} {a b : List S106} {t : Int} (h : Rt n a b t) (c : List Int) (x : List S114) (l : List S74) (hl : l.length ≤ 1048576) : Ev (fun k => impl_reckonable.f k [(⟨(n : Int), a, b, t, c, x⟩ : S36)] l) (expOk (l.map tmI) && l.all (nmOk (((2 ^ n : Nat) : Int) - 1) (vrs a b t) (c.length : Int))) := by
  simp only [impl_reckonable.f, rdPg]
  refine Ev.bind (implExpOk_ev l) ?_
  by_cases e : expOk (l.map tmI) = true
  · simp only [if_pos e]
    exact (implReck_l n h.hn a b t c x h.ha h.hb h.h0 h.h1 l hl l.length 0 (by omega)).cast (by rw [e, List.drop_zero, Bool.true_and])
  · simp only [if_neg e]
    exact (Ev.now _).cast (by rw [Bool.not_eq_true] at e; rw [e, Bool.false_and])
theorem specExp_l {n : Nat} {a b : List S106} {t : Int} (h : Rt n a b t) (c : List Int) (x : List S114) (l : List S74) (hl : l.length ≤ 1048576) (d : Nat) : ∀ i : Nat, i + d = l.length → Ev (fun k => spec_l3Exp.l0 k l (i : Int) (n : Int) a b t c x) (((l.drop i).all fun e => !(e.f0 == 17)) && (decide (l.length ≤ 40) && (expOk (l.map tmI) && l.all (nmOk (((2 ^ n : Nat) : Int) - 1) (vrs a b t) (c.length : Int))))) := by
  induction d with
  | zero =>
    intro i hi
    refine Ev.step (fun k => by rw [spec_l3Exp.l0]) ?_
    simp only [if_neg (show ¬ (i : Int) < (l.length : Int) by omega)]
    rw [List.drop_of_length_le (show l.length ≤ i by omega), List.all_nil, Bool.true_and]
    by_cases c4 : (l.length : Int) ≤ 40
    · simp only [if_pos c4, decide_eq_true (show l.length ≤ 40 by omega), Bool.true_and]
      refine Ev.bind (specNames_ev h c x l hl) ?_
      exact Ev.now _
    · simp only [if_neg c4, decide_eq_false (show ¬ l.length ≤ 40 by omega), Bool.false_and]
      exact Ev.now _
  | succ d ih =>
    intro i hi
    refine Ev.step (fun k => by rw [spec_l3Exp.l0]) ?_
    rw [rdTm_drop l i (by omega), List.all_cons]
    generalize rd_T74 l (i : Int) = e
    simp only [if_pos (show (i : Int) < (l.length : Int) by omega), if_pos (show 0 ≤ (i : Int) by omega), wrap_succ (show i < 9223372036854775807 by omega)]
    by_cases c7 : e.f0 = 17
    · simp only [if_pos c7, beq_iff_eq.2 c7, Bool.not_true, Bool.false_and]
      exact Ev.now _
    · simp only [if_neg c7, beq_eq_false_iff_ne.2 c7, Bool.not_false, Bool.true_and]
      exact ih (i + 1) (by omega)
theorem specExp_ev {n : Nat} {a b : List S106} {t : Int} (h : Rt n a b t) (c : List Int) (x : List S114) (l : List S74) (hl : l.length ≤ 1048576) : Ev (fun k => spec_l3Exp.f k (n : Int) a b t c x l) (exR n a b t c l) := by
  simp only [spec_l3Exp.f]
  exact (specExp_l h c x l hl l.length 0 (by omega)).cast (by rw [exR, expR, List.drop_zero, Bool.and_left_comm])
theorem implStand_l (l : List S74) (hl : l.length ≤ 1048576) (d : Nat) : ∀ i : Nat, i + d = l.length → Ev (fun k => impl_mayStand.l0 k l (l.length : Int) (i : Int)) ((l.drop i).all fun e => !(e.f0 == 17)) := by
  induction d with
  | zero =>
    intro i hi
    refine Ev.step (fun k => by rw [impl_mayStand.l0]) ?_
    try simp only [rdPg]
    simp only [if_neg (show ¬ (i : Int) < (l.length : Int) by omega)]
    rw [List.drop_of_length_le (show l.length ≤ i by omega)]
    exact Ev.now _
  | succ d ih =>
    intro i hi
    refine Ev.step (fun k => by rw [impl_mayStand.l0]) ?_
    try simp only [rdPg]
    rw [rdTm_drop l i (by omega), List.all_cons]
    generalize rd_T74 l (i : Int) = e
    simp only [if_pos (show (i : Int) < (l.length : Int) by omega), if_pos (show 0 ≤ (i : Int) by omega), wrap_succ (show i < 9223372036854775807 by omega)]
    by_cases c7 : e.f0 = 17
    · simp only [if_pos c7, beq_iff_eq.2 c7, Bool.not_true, Bool.false_and]
      exact Ev.now _
    · simp only [if_neg c7, beq_eq_false_iff_ne.2 c7, Bool.not_false, Bool.true_and]
      exact ih (i + 1) (by omega)
theorem implStand_ev {n : Nat} {a b : List S106} {t : Int} (h : Rt n a b t) (c : List Int) (x : List S114) (l : List S74) (hl : l.length ≤ 1048576) : Ev (fun k => impl_mayStand.f k [(⟨(n : Int), a, b, t, c, x⟩ : S36)] l) (exR n a b t c l) := by
  simp only [impl_mayStand.f, rdPg]
  have no : ∀ r : Bool, r = false → Ev (fun k => impl_mayStand.j0 k l true) r := by
    intro r hr
    subst hr
    refine Ev.step (fun k => by rw [impl_mayStand.j0]) ?_
    try simp only [rdPg]
    simp only [if_true]; exact Ev.now _
  by_cases c4 : (l.length : Int) > 40
  · simp only [if_pos c4]
    exact no _ (by rw [exR, expR, decide_eq_false (show ¬ l.length ≤ 40 by omega), Bool.false_and])
  simp only [if_neg c4]
  refine Ev.bind (implReck_ev h c x l hl) ?_
  cases e : (expOk (l.map tmI) && l.all (nmOk (((2 ^ n : Nat) : Int) - 1) (vrs a b t) (c.length : Int)))
  · exact no _ (by rw [exR, expR, e, Bool.and_false, Bool.and_false])
  · refine Ev.step (fun k => by rw [impl_mayStand.j0]) ?_
    try simp only [rdPg]
    simp only [Bool.not_true, Bool.false_eq_true, if_false]
    exact (implStand_l l hl l.length 0 (by omega)).cast (by rw [exR, expR, e, decide_eq_true (show l.length ≤ 40 by omega), List.drop_zero, Bool.true_and, Bool.and_true])

def tmL (s : S122) : S74 := ⟨s.f0, s.f1⟩
theorem rdTl_at (l : List S122) (i : Nat) (h : i < l.length) : rd_T122 l (i : Int) = l[i] := by
  simp only [rd_T122, Int.toNat_natCast, List.getD_eq_getElem?_getD, List.getElem?_eq_getElem h, Option.getD_some]
theorem szTermS_eq (l : List S122) (n : Int) (h0 : 0 ≤ n) (h1 : n ≤ 1048576) (hl : l.length ≤ 9223372036854775807) : laws_szTermS.f l n = some (if n - (l.length : Int) < 0 then -1 else n - (l.length : Int)) := by
  have hw : wrap64 (n - (l.length : Int)) = n - (l.length : Int) := wrap_id (by omega) (by omega)
  simp only [laws_szTermS.f, hw]
  split <;> rfl
theorem toTermS_l (l : List S122) (hl : l.length ≤ 1048576) (d : Nat) : ∀ (i : Nat) (x : List S74), i + d = l.length → x.length = l.length → (∀ j, j < i → x[j]? = (l.map tmL)[j]?) → Ev (fun k => laws_toTermS.l0 k l x (i : Int)) (l.map tmL) := by
  induction d with
  | zero =>
    intro i x hi hx ht
    refine Ev.step (fun k => by rw [laws_toTermS.l0]) ?_
    simp only [if_neg (show ¬ (i : Int) < (l.length : Int) by omega)]
    obtain rfl : x = l.map tmL := ext_at (by simpa using hx) (fun j hj => ht j (by simp at hj; omega))
    exact Ev.now _
  | succ d ih =>
    intro i x hi hx ht
    refine Ev.step (fun k => by rw [laws_toTermS.l0]) ?_
    simp only [if_pos (show (i : Int) < (l.length : Int) by omega), if_pos (show 0 ≤ (i : Int) by omega), if_pos (show (i : Int) < (x.length : Int) by omega), wrap_succ (show i < 9223372036854775807 by omega), Int.toNat_natCast, laws_toTerm.f, Option.bind_some]
    refine ih (i + 1) _ (by omega) (by simpa using hx) (fun j hj => ?_)
    rw [List.getElem?_set]
    by_cases e : i = j
    · subst e
      rw [if_pos rfl, if_pos (by omega), rdTl_at l i (by omega), List.getElem?_map, List.getElem?_eq_getElem (show i < l.length by omega)]
      rfl
    · rw [if_neg e]; exact ht j (by omega)
theorem toTermS_ev (l : List S122) (hl : l.length ≤ 1048576) : Ev (fun k => laws_toTermS.f k l) (l.map tmL) := by
  simp only [laws_toTermS.f, if_pos (show 0 ≤ (l.length : Int) by omega), Int.toNat_natCast, if_pos (show l.length ≤ 17592186044416 by omega)]
  exact toTermS_l l hl l.length 0 _ (by omega) (by simp) (fun j hj => by omega)
theorem eqTermS_l (a : List S74) (ha : a.length ≤ 9223372036854775807) (d : Nat) : ∀ (i : Nat), i + d = a.length → Ev (fun k => laws_eqTermS.l0 k a a (i : Int)) true := by
  induction d with
  | zero =>
    intro i hi
    refine Ev.step (fun k => by rw [laws_eqTermS.l0]) ?_
    simp only [if_neg (show ¬ (i : Int) < (a.length : Int) by omega)]
    exact Ev.now _
  | succ d ih =>
    intro i hi
    refine Ev.step (fun k => by rw [laws_eqTermS.l0]) ?_
    simp only [if_pos (show (i : Int) < (a.length : Int) by omega), if_pos (show 0 ≤ (i : Int) by omega), wrap_succ (show i < 9223372036854775807 by omega), laws_eqTerm.f, if_true, Option.bind_some]
    exact ih (i + 1) (by omega)
theorem eqTermS_same (a : List S74) (ha : a.length ≤ 9223372036854775807) : Ev (fun k => laws_eqTermS.f k a a) true := by
  simp only [laws_eqTermS.f, if_true]
  exact eqTermS_l a ha a.length 0 (by omega)

theorem rdSt_at (l : List S114) (i : Nat) (h : i < l.length) : rd_T114 l (i : Int) = l[i] := by
  simp only [rd_T114, Int.toNat_natCast, List.getD_eq_getElem?_getD, List.getElem?_eq_getElem h, Option.getD_some]
theorem rdSl_at (l : List S126) (i : Nat) (h : i < l.length) : rd_T126 l (i : Int) = l[i] := by
  simp only [rd_T126, Int.toNat_natCast, List.getD_eq_getElem?_getD, List.getElem?_eq_getElem h, Option.getD_some]
def stL (s : S126) : S114 := ⟨s.f0, s.f1, s.f2.map tmL, s.f3.map tmL⟩
def okSt (s : S126) : Prop := s.f2.length ≤ 1048576 ∧ s.f3.length ≤ 1048576
theorem szStmt_ex (a b : Int) (l2 l3 : List S122) (n : Int) (h0 : 0 ≤ n) (h1 : n ≤ 1048576) (hl2 : l2.length ≤ 9223372036854775807) (hl3 : l3.length ≤ 9223372036854775807) :
    ∃ r, laws_szStmt.f a b l2 l3 n = some r ∧ (r < 0 ∨ 0 ≤ r ∧ r ≤ n ∧ l2.length ≤ 1048576 ∧ l3.length ≤ 1048576) := by
  simp only [laws_szStmt.f, szTermS_eq l2 n h0 h1 hl2, Option.bind_some]
  by_cases c : n - (l2.length : Int) < 0
  · simp only [if_pos c, if_pos (show (-1 : Int) < 0 by decide)]
    exact ⟨_, rfl, .inl (by decide)⟩
  simp only [if_neg c, szTermS_eq l3 (n - (l2.length : Int)) (by omega) (by omega) hl3, Option.bind_some]
  by_cases c3 : n - (l2.length : Int) - (l3.length : Int) < 0
  · simp only [if_pos c3, if_pos (show (-1 : Int) < 0 by decide)]
    exact ⟨_, rfl, .inl (by decide)⟩
  · simp only [if_neg c3]
    exact ⟨_, rfl, .inr ⟨by omega, by omega, by omega, by omega⟩⟩
theorem szStmtS_l (l : List S126) (hl : l.length ≤ 1048576) (hq : ∀ s ∈ l, s.f2.length ≤ 9223372036854775807 ∧ s.f3.length ≤ 9223372036854775807) (d : Nat) : ∀ (i : Nat) (n : Int), i + d = l.length → 0 ≤ n → n ≤ 1048576 → ∃ r, Ev (fun k => laws_szStmtS.l0 k l n (i : Int)) r ∧ (r < 0 ∨ 0 ≤ r ∧ r ≤ n ∧ ∀ s ∈ l.drop i, okSt s) := by
  induction d with
  | zero =>
    intro i n hi h0 h1
    refine ⟨n, Ev.step (fun k => by rw [laws_szStmtS.l0]) ?_, .inr ⟨h0, by omega, ?_⟩⟩
    · simp only [if_neg (show ¬ (i : Int) < (l.length : Int) by omega)]
      exact Ev.now _
    · rw [List.drop_eq_nil_of_le (by omega)]; simp
  | succ d ih =>
    intro i n hi h0 h1
    have hil : i < l.length := by omega
    have hm : l[i] ∈ l := List.getElem_mem _
    obtain ⟨t, et, ht⟩ := szStmt_ex l[i].f0 l[i].f1 l[i].f2 l[i].f3 n h0 h1 (hq _ hm).1 (hq _ hm).2
    by_cases c : t < 0
    · refine ⟨-1, Ev.step (fun k => by rw [laws_szStmtS.l0]) ?_, .inl (by decide)⟩
      simp only [if_pos (show (i : Int) < (l.length : Int) by omega), if_pos (show 0 ≤ (i : Int) by omega), rdSl_at l i hil, et, Option.bind_some, if_pos c]
      exact Ev.now _
    · have ht' : 0 ≤ t ∧ t ≤ n ∧ l[i].f2.length ≤ 1048576 ∧ l[i].f3.length ≤ 1048576 := by
        rcases ht with h | h
        · exact absurd h c
        · exact h
      obtain ⟨r, er, hr⟩ := ih (i + 1) t (by omega) ht'.1 (by omega)
      refine ⟨r, Ev.step (fun k => by rw [laws_szStmtS.l0]) ?_, ?_⟩
      · simp only [if_pos (show (i : Int) < (l.length : Int) by omega), if_pos (show 0 ≤ (i : Int) by omega), rdSl_at l i hil, et, Option.bind_some, if_neg c, wrap_succ (show i < 9223372036854775807 by omega)]
        exact er
      · rcases hr with h | ⟨h2, h3, h4⟩
        · exact .inl h
        · refine .inr ⟨h2, by omega, fun s hs => ?_⟩
          rw [List.drop_eq_getElem_cons hil, List.mem_cons] at hs
          rcases hs with rfl | hs
          · exact ht'.2.2
          · exact h4 s hs
theorem szStmtS_ex (l : List S126) (n : Int) (h0 : 0 ≤ n) (h1 : n ≤ 1048576) (hl : l.length ≤ 9223372036854775807) (hq : ∀ s ∈ l, s.f2.length ≤ 9223372036854775807 ∧ s.f3.length ≤ 9223372036854775807) :
    ∃ r, Ev (fun k => laws_szStmtS.f k l n) r ∧ (r < 0 ∨ 0 ≤ r ∧ r ≤ n ∧ l.length ≤ 1048576 ∧ ∀ s ∈ l, okSt s) := by
  simp only [laws_szStmtS.f, wrap_id (show -9223372036854775808 ≤ n - (l.length : Int) by omega) (show n - (l.length : Int) ≤ 9223372036854775807 by omega)]
  by_cases c : n - (l.length : Int) < 0
  · simp only [if_pos c]
    exact ⟨-1, Ev.now _, .inl (by decide)⟩
  · simp only [if_neg c]
    obtain ⟨r, er, hr⟩ := szStmtS_l l (by omega) hq l.length 0 (n - (l.length : Int)) (by omega) (by omega) (by omega)
    refine ⟨r, er, ?_⟩
    rcases hr with h | ⟨h2, h3, h4⟩
    · exact .inl h
    · exact .inr ⟨h2, by omega, by omega, by simpa using h4⟩
theorem toStmt_ev (s : S126) (h : okSt s) : Ev (fun k => laws_toStmt.f k s.f0 s.f1 s.f2 s.f3) (s.f0, s.f1, s.f2.map tmL, s.f3.map tmL) := by
  simp only [laws_toStmt.f]
  refine Ev.bind (toTermS_ev _ h.1) ?_
  refine Ev.bind (toTermS_ev _ h.2) ?_
  exact Ev.now _
theorem toStmtS_l (l : List S126) (hl : l.length ≤ 1048576) (hq : ∀ s ∈ l, okSt s) (d : Nat) : ∀ (i : Nat) (x : List S114), i + d = l.length → x.length = l.length → (∀ j, j < i → x[j]? = (l.map stL)[j]?) → Ev (fun k => laws_toStmtS.l0 k l x (i : Int)) (l.map stL) := by
  induction d with
  | zero =>
    intro i x hi hx ht
    refine Ev.step (fun k => by rw [laws_toStmtS.l0]) ?_
    simp only [if_neg (show ¬ (i : Int) < (l.length : Int) by omega)]
    obtain rfl : x = l.map stL := ext_at (by simpa using hx) (fun j hj => ht j (by simp at hj; omega))
    exact Ev.now _
  | succ d ih =>
    intro i x hi hx ht
    have hil : i < l.length := by omega
    refine Ev.step (fun k => by rw [laws_toStmtS.l0]) ?_
    simp only [if_pos (show (i : Int) < (l.length : Int) by omega), if_pos (show 0 ≤ (i : Int) by omega), rdSl_at l i hil]
    refine Ev.bind (toStmt_ev _ (hq _ (List.getElem_mem hil))) ?_
    simp only [if_pos (show (i : Int) < (x.length : Int) by omega), wrap_succ (show i < 9223372036854775807 by omega), Int.toNat_natCast]
    refine ih (i + 1) _ (by omega) (by simpa using hx) (fun j hj => ?_)
    rw [List.getElem?_set]
    by_cases e : i = j
    · subst e
      rw [if_pos rfl, if_pos (by omega), List.getElem?_map, List.getElem?_eq_getElem hil]
      rfl
    · rw [if_neg e]; exact ht j (by omega)
theorem toStmtS_ev (l : List S126) (hl : l.length ≤ 1048576) (hq : ∀ s ∈ l, okSt s) : Ev (fun k => laws_toStmtS.f k l) (l.map stL) := by
  simp only [laws_toStmtS.f, if_pos (show 0 ≤ (l.length : Int) by omega), Int.toNat_natCast, if_pos (show l.length ≤ 4398046511104 by omega)]
  exact toStmtS_l l hl hq l.length 0 _ (by omega) (by simp) (fun j hj => by omega)
theorem eqStmt_same (a b : Int) (l m : List S74) (hl : l.length ≤ 1048576) (hm : m.length ≤ 1048576) : Ev (fun k => laws_eqStmt.f k a b l m a b l m) true := by
  simp only [laws_eqStmt.f, if_true]
  refine Ev.bind (eqTermS_same l (by omega)) ?_
  simp only [if_true]
  refine Ev.bind (eqTermS_same m (by omega)) ?_
  simp only [if_true]
  exact Ev.now _
theorem eqStmtS_l (x : List S114) (hx : x.length ≤ 1048576) (hq : ∀ s ∈ x, s.f2.length ≤ 1048576 ∧ s.f3.length ≤ 1048576) (d : Nat) : ∀ (i : Nat), i + d = x.length → Ev (fun k => laws_eqStmtS.l0 k x x (i : Int)) true := by
  induction d with
  | zero =>
    intro i hi
    refine Ev.step (fun k => by rw [laws_eqStmtS.l0]) ?_
    simp only [if_neg (show ¬ (i : Int) < (x.length : Int) by omega)]
    exact Ev.now _
  | succ d ih =>
    intro i hi
    have hil : i < x.length := by omega
    have hm := hq _ (List.getElem_mem hil)
    refine Ev.step (fun k => by rw [laws_eqStmtS.l0]) ?_
    simp only [if_pos (show (i : Int) < (x.length : Int) by omega), if_pos (show 0 ≤ (i : Int) by omega), rdSt_at x i hil]
    refine Ev.bind (eqStmt_same _ _ _ _ hm.1 hm.2) ?_
    simp only [if_true, wrap_succ (show i < 9223372036854775807 by omega)]
    exact ih (i + 1) (by omega)
theorem eqStmtS_same (x : List S114) (hx : x.length ≤ 1048576) (hq : ∀ s ∈ x, s.f2.length ≤ 1048576 ∧ s.f3.length ≤ 1048576) : Ev (fun k => laws_eqStmtS.f k x x) true := by
  simp only [laws_eqStmtS.f, if_true]
  exact eqStmtS_l x hx hq x.length 0 (by omega)
theorem stL_ok {l : List S126} (hq : ∀ s ∈ l, okSt s) : ∀ s ∈ l.map stL, s.f2.length ≤ 1048576 ∧ s.f3.length ≤ 1048576 := by
  intro s hs
  obtain ⟨t, ht, rfl⟩ := List.mem_map.1 hs
  have := hq t ht
  simpa [stL, okSt] using this

/-! Stmts. -/
def rng (lo hi v : Int) : Bool := decide (lo ≤ v) && decide (v ≤ hi)
def hp (n : Nat) (a b : List S106) (t : Int) (c : List Int) (l : List S74) (q : Bool) : Bool := if q = true then exR n a b t c l else decide (l.length = 0)
def stR (n : Nat) (a b : List S106) (t : Int) (c : List Int) (s : S114) : Bool :=
  if s.f0 = 0 then rng ((a.length : Int) + (b.length : Int)) (vrs a b t - 1) s.f1 && (hp n a b t c s.f2 false && hp n a b t c s.f3 true)
  else if s.f0 = 1 then rng 0 ((c.length : Int) - 1) s.f1 && (hp n a b t c s.f2 true && hp n a b t c s.f3 true)
  else if s.f0 = 2 then rng 0 0 s.f1 && (hp n a b t c s.f2 false && hp n a b t c s.f3 true)
  else if s.f0 = 6 then rng 0 0 s.f1 && (hp n a b t c s.f2 false && hp n a b t c s.f3 true)
  else if s.f0 = 5 then rng 0 4 s.f1 && (hp n a b t c s.f2 false && hp n a b t c s.f3 false)
  else if s.f0 = 7 then rng 0 9 s.f1 && (hp n a b t c s.f2 false && hp n a b t c s.f3 false)
  else if s.f0 = 9 then rng 0 9 s.f1 && (hp n a b t c s.f2 false && hp n a b t c s.f3 false)
  else if s.f0 = 3 then rng 0 0 s.f1 && (hp n a b t c s.f2 false && hp n a b t c s.f3 false)
  else if s.f0 = 4 then rng 0 0 s.f1 && (hp n a b t c s.f2 false && hp n a b t c s.f3 false)
  else if s.f0 = 8 then rng 0 0 s.f1 && (hp n a b t c s.f2 false && hp n a b t c s.f3 false)
  else false
theorem rdSt_ (y z : S114) (h : y = z) : rd_T114 [y] 0 = z := h
theorem rdSt_one (s : S114) : rd_T114 [s] 0 = s := rdSt_ s s (Eq.trans rfl rfl)
theorem holds_ev {n : Nat} {a b : List S106} {t : Int} (h : Rt n a b t) (c : List Int) (x : List S114) (l : List S74) (hl : l.length ≤ 1048576) (q : Bool) : Ev (fun k => impl_holdsPlace.f k [(⟨(n : Int), a, b, t, c, x⟩ : S36)] l q) (hp n a b t c l q) := by
  simp only [impl_holdsPlace.f, rdPg]
  simp only [hp]
  cases q
  · simp only [Bool.false_eq_true, if_false]
    exact (Ev.now _).cast (by rw [Bool.eq_iff_iff]; simp)
  · simp only [if_true]
    refine Ev.bind (implStand_ev h c x l hl) ?_
    exact Ev.now _
theorem implSt_j2 {n : Nat} {a b : List S106} {t : Int} (h : Rt n a b t) (c : List Int) (x : List S114) (s : S114) (h2 : s.f2.length ≤ 1048576) (h3 : s.f3.length ≤ 1048576) (p q : Bool) (lo hi : Int) : Ev (fun k => impl_stmtRight.j2 k [(⟨(n : Int), a, b, t, c, x⟩ : S36)] [s] p q lo hi) (rng lo hi s.f1 && (hp n a b t c s.f2 p && hp n a b t c s.f3 q)) := by
  refine Ev.step (fun k => by rw [impl_stmtRight.j2]) ?_
  try simp only [rdPg]
  simp only [rdSt_one]
  have no : ∀ r : Bool, r = false → Ev (fun k => impl_stmtRight.j3 k [(⟨(n : Int), a, b, t, c, x⟩ : S36)] [s] p q true) r := by
    intro r hr
    subst hr
    refine Ev.step (fun k => by rw [impl_stmtRight.j3]) ?_
    try simp only [rdPg]
    simp only [if_true]; exact Ev.now _
  by_cases c1 : s.f1 < lo
  · simp only [if_pos c1]
    exact no _ (by rw [rng, decide_eq_false (show ¬ lo ≤ s.f1 by omega), Bool.false_and, Bool.false_and])
  by_cases c2 : s.f1 > hi
  · simp only [if_neg c1, decide_eq_true c2]
    exact no _ (by rw [rng, decide_eq_false (show ¬ s.f1 ≤ hi by omega), Bool.and_false, Bool.false_and])
  simp only [if_neg c1, decide_eq_false c2]
  refine Ev.step (fun k => by rw [impl_stmtRight.j3]) ?_
  try simp only [rdPg]
  simp only [Bool.false_eq_true, if_false, rdSt_one]
  rw [rng, decide_eq_true (show lo ≤ s.f1 by omega), decide_eq_true (show s.f1 ≤ hi by omega), Bool.true_and, Bool.true_and]
  refine Ev.bind (holds_ev h c x s.f2 h2 p) ?_
  cases hp n a b t c s.f2 p
  · simp only [Bool.false_eq_true, if_false]
    exact Ev.now _
  · simp only [if_true, Bool.true_and]
    refine Ev.bind (holds_ev h c x s.f3 h3 q) ?_
    exact Ev.now _
theorem implSt_ev {n : Nat} {a b : List S106} {t : Int} (h : Rt n a b t) (c : List Int) (hc : c.length ≤ 2) (x : List S114) (s : S114) (h2 : s.f2.length ≤ 1048576) (h3 : s.f3.length ≤ 1048576) : Ev (fun k => impl_stmtRight.f k [(⟨(n : Int), a, b, t, c, x⟩ : S36)] [s]) (stR n a b t c s) := by
  simp only [impl_stmtRight.f, rdPg]
  simp only [rdSt_one, implInputs_eq (n : Int) a b t c x h.ha h.hb, implVars_eq (n : Int) a b t c x h.ha h.hb h.h0 h.h1, Option.bind_some, stR]
  have J := fun p q lo hi => implSt_j2 h c x s h2 h3 p q lo hi
  have hv := h.ha
  have hv2 := h.hb
  have hv3 := h.h0
  have hv4 := h.h1
  generalize hop : s.f0 = op
  by_cases c0 : op = 0
  · simp only [if_pos c0]
    rw [wrap_id (show -9223372036854775808 ≤ (a.length : Int) + (b.length : Int) + t - 1 by omega) (by omega)]
    exact J _ _ _ _
  by_cases c1 : op = 1
  · simp only [if_neg c0, if_pos c1]
    rw [wrap_id (show -9223372036854775808 ≤ (c.length : Int) - 1 by omega) (by omega)]
    exact J _ _ _ _
  simp only [if_neg c0, if_neg c1]
  by_cases c2 : op = 2
  · simp only [if_pos c2, beq_iff_eq.2 c2]
    refine Ev.step (fun k => by rw [impl_stmtRight.j0]) ?_
    try simp only [rdPg]
    simp only [if_true]
    exact J _ _ _ _
  simp only [if_neg c2]
  by_cases c6 : op = 6
  · simp only [if_pos c6, beq_iff_eq.2 c6]
    refine Ev.step (fun k => by rw [impl_stmtRight.j0]) ?_
    try simp only [rdPg]
    simp only [if_true]
    exact J _ _ _ _
  simp only [if_neg c6, beq_eq_false_iff_ne.2 c6]
  refine Ev.step (fun k => by rw [impl_stmtRight.j0]) ?_
  try simp only [rdPg]
  simp only [Bool.false_eq_true, if_false]
  by_cases c5 : op = 5
  · simp only [if_pos c5]
    exact J _ _ _ _
  simp only [if_neg c5]
  by_cases c7 : op = 7
  · simp only [if_pos c7, beq_iff_eq.2 c7]
    refine Ev.step (fun k => by rw [impl_stmtRight.j1]) ?_
    try simp only [rdPg]
    simp only [if_true]
    exact J _ _ _ _
  simp only [if_neg c7]
  by_cases c9 : op = 9
  · simp only [if_pos c9, beq_iff_eq.2 c9]
    refine Ev.step (fun k => by rw [impl_stmtRight.j1]) ?_
    try simp only [rdPg]
    simp only [if_true]
    exact J _ _ _ _
  simp only [if_neg c9, beq_eq_false_iff_ne.2 c9]
  refine Ev.step (fun k => by rw [impl_stmtRight.j1]) ?_
  try simp only [rdPg]
  simp only [Bool.false_eq_true, if_false]
  by_cases c3 : op = 3
  · simp only [if_pos c3]
    exact J _ _ _ _
  simp only [if_neg c3]
  by_cases c4 : op = 4
  · simp only [if_pos c4]
    exact J _ _ _ _
  simp only [if_neg c4]
  by_cases c8 : op = 8
  · simp only [if_pos c8]
    exact J _ _ _ _
  simp only [if_neg c8]
  exact Ev.now _
/-- What the reference asks of the number. -/
def numR (a b : List S106) (t : Int) (c : List Int) (s : S114) : Bool :=
  if s.f0 = 0 then rng ((a.length : Int) + (b.length : Int)) (vrs a b t - 1) s.f1 else if s.f0 = 1 then rng 0 ((c.length : Int) - 1) s.f1 else if s.f0 = 5 then rng 0 4 s.f1 else if s.f0 = 7 then rng 0 9 s.f1 else if s.f0 = 9 then rng 0 9 s.f1 else s.f1 == 0
theorem specSt_j2 {n : Nat} {a b : List S106} {t : Int} (h : Rt n a b t) (c : List Int) (hc : c.length ≤ 2) (x : List S114) (s : S114) (q : Bool) : Ev (fun k => spec_l3Stmt.j2 k q (n : Int) a b t c x s.f0 s.f1 s.f2 s.f3) (!q && numR a b t c s) := by
  refine Ev.step (fun k => by rw [spec_l3Stmt.j2]) ?_
  have hv := h.ha
  have hv2 := h.hb
  have hv3 := h.h0
  have hv4 := h.h1
  cases q
  · simp only [Bool.false_eq_true, if_false, Bool.not_false, Bool.true_and, l1In_eq, Option.bind_some, numR, rng, vrs]
    rw [wrap_id (x := (a.length : Int) + (b.length : Int)) (by omega) (by omega), wrap_id (x := (a.length : Int) + (b.length : Int) + t) (by omega) (by omega), wrap_id (x := (a.length : Int) + (b.length : Int) + t - 1) (by omega) (by omega), wrap_id (x := (c.length : Int) - 1) (by omega) (by omega)]
    (repeat' split) <;> exact Ev.now _
  · simp only [if_true, Bool.not_true, Bool.false_and]
    exact Ev.now _
def stx (s : S114) : Bool := s.f0 == 0 || (s.f0 == 1 || (s.f0 == 2 || s.f0 == 6))
theorem specSt_j1 {n : Nat} {a b : List S106} {t : Int} (h : Rt n a b t) (c : List Int) (hc : c.length ≤ 2) (x : List S114) (s : S114) (h2 : s.f2.length ≤ 1048576) (h3 : s.f3.length ≤ 1048576) (e bad : Bool) : Ev (fun k => spec_l3Stmt.j1 k e bad (n : Int) a b t c x s.f0 s.f1 s.f2 s.f3) (!bad && ((!e || exR n a b t c s.f3) && ((!(s.f0 == 1) || exR n a b t c s.f2) && numR a b t c s))) := by
  refine Ev.step (fun k => by rw [spec_l3Stmt.j1]) ?_
  have J := fun q => specSt_j2 h c hc x s q
  cases bad
  · simp only [Bool.false_eq_true, if_false, Bool.not_false, Bool.true_and]
    have tail : Ev (fun k => if s.f0 = 1 then (spec_l3Exp.f k (n : Int) a b t c x s.f2).bind fun t242 => spec_l3Stmt.j2 k (!t242) (n : Int) a b t c x s.f0 s.f1 s.f2 s.f3 else spec_l3Stmt.j2 k false (n : Int) a b t c x s.f0 s.f1 s.f2 s.f3) ((!(s.f0 == 1) || exR n a b t c s.f2) && numR a b t c s) := by
      by_cases c1 : s.f0 = 1
      · simp only [if_pos c1, beq_iff_eq.2 c1, Bool.not_true, Bool.false_or]
        refine Ev.bind (specExp_ev h c x s.f2 h2) ?_
        exact (J _).cast (by rw [Bool.not_not])
      · simp only [if_neg c1, beq_eq_false_iff_ne.2 c1, Bool.not_false, Bool.true_or, Bool.true_and]
        exact (J _).cast (by rw [Bool.not_false, Bool.true_and])
    cases e
    · simp only [Bool.false_eq_true, if_false, Bool.not_false, Bool.true_or, Bool.true_and]
      exact tail
    · simp only [if_true, Bool.not_true, Bool.false_or]
      refine Ev.bind (specExp_ev h c x s.f3 h3) ?_
      cases exR n a b t c s.f3
      · simp only [Bool.false_eq_true, if_false, Bool.false_and]
        exact (J true).cast (by rw [Bool.not_true, Bool.false_and])
      · simp only [if_true, Bool.true_and]
        exact tail
  · simp only [if_true, Bool.not_true, Bool.false_and]
    exact Ev.now _
def stS (n : Nat) (a b : List S106) (t : Int) (c : List Int) (s : S114) : Bool :=
  rng 0 9 s.f0 && (!(stx s != decide (0 < s.f3.length)) && (!((s.f0 == 1) != decide (0 < s.f2.length)) && ((!(stx s) || exR n a b t c s.f3) && ((!(s.f0 == 1) || exR n a b t c s.f2) && numR a b t c s))))
theorem specSt_j0 {n : Nat} {a b : List S106} {t : Int} (h : Rt n a b t) (c : List Int) (hc : c.length ≤ 2) (x : List S114) (s : S114) (h2 : s.f2.length ≤ 1048576) (h3 : s.f3.length ≤ 1048576) (e : Bool) (he : e = stx s) : Ev (fun k => spec_l3Stmt.j0 k e (n : Int) a b t c x s.f0 s.f1 s.f2 s.f3) (stS n a b t c s) := by
  refine Ev.step (fun k => by rw [spec_l3Stmt.j0]) ?_
  simp only [l1In_eq, Option.bind_some]
  rw [he]
  have J := fun bad => specSt_j1 h c hc x s h2 h3 (stx s) bad
  have e3 : decide ((s.f3.length : Int) > 0) = decide (0 < s.f3.length) := by rw [decide_eq_decide]; omega
  have e2 : decide ((s.f2.length : Int) > 0) = decide (0 < s.f2.length) := by rw [decide_eq_decide]; omega
  simp only [e3, e2, stS]
  rw [show rng 0 9 s.f0 = (decide (0 ≤ s.f0) && decide (s.f0 ≤ 9)) from rfl]
  cases (decide (0 ≤ s.f0) && decide (s.f0 ≤ 9))
  · simp only [Bool.false_eq_true, if_false, Bool.false_and]
    exact (J true).cast (by rw [Bool.not_true, Bool.false_and])
  · simp only [if_true, Bool.true_and]
    cases (stx s != decide (0 < s.f3.length))
    · simp only [Bool.false_eq_true, if_false, Bool.not_false, Bool.true_and]
      exact J _
    · simp only [if_true, Bool.not_true, Bool.false_and]
      exact (J true).cast (by rw [Bool.not_true, Bool.false_and])
theorem specSt_ev {n : Nat} {a b : List S106} {t : Int} (h : Rt n a b t) (c : List Int) (hc : c.length ≤ 2) (x : List S114) (s : S114) (h2 : s.f2.length ≤ 1048576) (h3 : s.f3.length ≤ 1048576) : Ev (fun k => spec_l3Stmt.f k (n : Int) a b t c x s.f0 s.f1 s.f2 s.f3) (stS n a b t c s) := by
  simp only [spec_l3Stmt.f]
  have J := fun e he => specSt_j0 h c hc x s h2 h3 e he
  by_cases c0 : s.f0 = 0
  · simp only [if_pos c0]; exact J _ (by simp [stx, c0])
  by_cases c1 : s.f0 = 1
  · simp only [if_neg c0, if_pos c1]; exact J _ (by simp [stx, c1])
  by_cases c2 : s.f0 = 2
  · simp only [if_neg c0, if_neg c1, if_pos c2]; exact J _ (by simp [stx, c2])
  simp only [if_neg c0, if_neg c1, if_neg c2]
  exact J _ (by rw [stx, beq_eq_false_iff_ne.2 c0, beq_eq_false_iff_ne.2 c1, beq_eq_false_iff_ne.2 c2]; rfl)
theorem rng_zero (v : Int) : rng 0 0 v = (v == 0) := by rw [Bool.eq_iff_iff]; simp [rng]; omega
theorem stS_eq (n : Nat) (a b : List S106) (t : Int) (c : List Int) (s : S114) : stS n a b t c s = stR n a b t c s := by
  have k3 : exR n a b t c s.f3 = true → 0 < s.f3.length := expR_pos
  have k2 : exR n a b t c s.f2 = true → 0 < s.f2.length := expR_pos
  have z3 : decide (s.f3.length = 0) = !decide (0 < s.f3.length) := by by_cases h : s.f3.length = 0 <;> simp [h] <;> omega
  have z2 : decide (s.f2.length = 0) = !decide (0 < s.f2.length) := by by_cases h : s.f2.length = 0 <;> simp [h] <;> omega
  have r9 : ∀ v : Int, 0 ≤ v → v ≤ 9 → rng 0 9 v = true := by intro v h0 h1; simp [rng, h0, h1]
  have l3 : exR n a b t c s.f3 = (exR n a b t c s.f3 && decide (0 < s.f3.length)) := by
    cases e : exR n a b t c s.f3
    · rfl
    · rw [decide_eq_true (k3 e)]; rfl
  have l2 : exR n a b t c s.f2 = (exR n a b t c s.f2 && decide (0 < s.f2.length)) := by
    cases e : exR n a b t c s.f2
    · rfl
    · rw [decide_eq_true (k2 e)]; rfl
  unfold stS stR numR stx hp
  simp only [z3, z2, rng_zero, Bool.false_eq_true, if_false, if_true]
  rw [l3, l2]
  generalize exR n a b t c s.f3 = E3
  generalize exR n a b t c s.f2 = E2
  generalize decide (0 < s.f3.length) = D3
  generalize decide (0 < s.f2.length) = D2
  generalize s.f0 = op
  by_cases c0 : op = 0
  · subst c0; simp [r9]; cases E3 <;> cases D3 <;> cases D2 <;> simp
  by_cases c1 : op = 1
  · subst c1; simp [r9]; cases E3 <;> cases D3 <;> cases D2 <;> cases E2 <;> simp
  by_cases c2 : op = 2
  · subst c2; simp [r9]; cases E3 <;> cases D3 <;> cases D2 <;> simp
  by_cases c3 : op = 3
  · subst c3; simp [r9]; cases D3 <;> cases D2 <;> simp
  by_cases c4 : op = 4
  · subst c4; simp [r9]; cases D3 <;> cases D2 <;> simp
  by_cases c5 : op = 5
  · subst c5; simp [r9]; cases D3 <;> cases D2 <;> simp
  by_cases c6 : op = 6
  · subst c6; simp [r9]; cases E3 <;> cases D3 <;> cases D2 <;> simp
  by_cases c7 : op = 7
  · subst c7; simp [r9]; cases D3 <;> cases D2 <;> simp
  by_cases c8 : op = 8
  · subst c8; simp [r9]; cases D3 <;> cases D2 <;> simp
  by_cases c9 : op = 9
  · subst c9; simp [r9]; cases D3 <;> cases D2 <;> simp
  simp only [if_neg c0, if_neg c1, if_neg c2, if_neg c3, if_neg c4, if_neg c5, if_neg c6, if_neg c7, if_neg c8, if_neg c9]
  have : rng 0 9 op = false := by rw [← Bool.not_eq_true]; simp only [rng, Bool.and_eq_true, decide_eq_true_eq]; omega
  rw [this, Bool.false_and]
theorem specStmts_l {n : Nat} {a b : List S106} {t : Int} (h : Rt n a b t) (c : List Int) (hc : c.length ≤ 2) (x : List S114) (hx : x.length ≤ 1048576) (hq : ∀ s ∈ x, s.f2.length ≤ 1048576 ∧ s.f3.length ≤ 1048576) (d : Nat) : ∀ i : Nat, i + d = x.length → Ev (fun k => spec_l3Stmts.l0 k (i : Int) (n : Int) a b t c x) ((x.drop i).all (stR n a b t c)) := by
  induction d with
  | zero =>
    intro i hi
    refine Ev.step (fun k => by rw [spec_l3Stmts.l0]) ?_
    simp only [if_neg (show ¬ (i : Int) < (x.length : Int) by omega)]
    rw [List.drop_of_length_le (show x.length ≤ i by omega)]
    exact Ev.now _
  | succ d ih =>
    intro i hi
    have hil : i < x.length := by omega
    have hm := hq _ (List.getElem_mem hil)
    refine Ev.step (fun k => by rw [spec_l3Stmts.l0]) ?_
    simp only [if_pos (show (i : Int) < (x.length : Int) by omega), if_pos (show 0 ≤ (i : Int) by omega), rdSt_at x i hil, wrap_succ (show i < 9223372036854775807 by omega)]
    rw [List.drop_eq_getElem_cons hil, List.all_cons]
    refine Ev.bind ((specSt_ev h c hc x x[i] hm.1 hm.2).cast (stS_eq n a b t c x[i])) ?_
    cases stR n a b t c x[i]
    · simp only [Bool.false_eq_true, if_false, Bool.false_and]
      exact Ev.now _
    · simp only [if_true, Bool.true_and]
      exact ih (i + 1) (by omega)
theorem specStmts_ev {n : Nat} {a b : List S106} {t : Int} (h : Rt n a b t) (c : List Int) (hc : c.length ≤ 2) (x : List S114) (hx : x.length ≤ 1048576) (hq : ∀ s ∈ x, s.f2.length ≤ 1048576 ∧ s.f3.length ≤ 1048576) : Ev (fun k => spec_l3Stmts.f k (n : Int) a b t c x) (x.all (stR n a b t c)) := by
  simp only [spec_l3Stmts.f]
  exact specStmts_l h c hc x hx hq x.length 0 (by omega)

theorem specEnd_leaf (x : List S114) (hx : x.length ≤ 1000) (a : Nat) (h : a < x.length) (ho : opx x a ≠ 2 ∧ opx x a ≠ 5 ∧ opx x a ≠ 8) : Ev (fun k => spec_l3End.f k x (a : Int)) (-1, -1) := by
  have key : ∀ t : Int, Ev (fun k => spec_l3Block.l0 k x ((a + 1 : Nat) : Int)) t → Ev (fun k => spec_l3End.f k x (a : Int)) (-1, -1) := by
    intro t k1
    refine Ev.step (fun k => by rw [spec_l3End.f]) ?_
    refine Ev.bind (l3E_step x a h hx k1) ?_
    unfold opx at ho
    simp only [if_pos (show 0 ≤ (a : Int) by omega), if_pos (show (a : Int) < (x.length : Int) by omega), if_neg ho.1, if_neg ho.2.1, if_neg ho.2.2]
    exact Ev.now _
  rcases blk_all x hx (x.length - (a + 1)) (a + 1) (by omega) with ⟨e, l, _, _, k1, _⟩ | ⟨k1, _⟩
  · exact key _ k1
  · exact key _ k1
theorem l3E_one (x : List S114) (hx : x.length ≤ 1000) (a c : Nat) (h : a < x.length) (ho : opx x a = 2 ∨ opx x a = 5) (k1 : Ev (fun k => spec_l3Block.l0 k x ((a + 1 : Nat) : Int)) (c : Int)) (h4 : isB x c 4 = true) : Ev (fun k => spec_l3End.f k x (a : Int)) (-1, (c : Int)) := by
  have hop : (rd_T114 x (a : Int)).f0 = opx x a := rfl
  refine Ev.step (fun k => by rw [spec_l3End.f]) ?_
  refine Ev.bind (l3E_step x a h hx k1) ?_
  simp only [if_pos (show 0 ≤ (a : Int) by omega), if_pos (show (a : Int) < (x.length : Int) by omega), hop, specIs_eq x hx, Option.bind_some, h4, if_true]
  rcases ho with e2 | e2
  · simp only [e2, if_neg (show ¬ (2 : Int) = 5 by decide), if_true]; exact Ev.now _
  · simp only [e2, if_true]; exact Ev.now _
theorem l3E_two (x : List S114) (hx : x.length ≤ 1000) (a c d : Nat) (h : a < x.length) (ho : opx x a = 2 ∧ isB x c 3 = true ∨ opx x a = 8 ∧ isB x c 9 = true) (k1 : Ev (fun k => spec_l3Block.l0 k x ((a + 1 : Nat) : Int)) (c : Int)) (j1 : Ev (fun k => spec_l3Block.l0 k x ((c + 1 : Nat) : Int)) (d : Int)) (h5 : isB x d 4 = true) : Ev (fun k => spec_l3End.f k x (a : Int)) ((c : Int), (d : Int)) := by
  have hop : (rd_T114 x (a : Int)).f0 = opx x a := rfl
  have hcl : c < x.length := by
    rcases ho with hh | hh
    · exact (isB_lt hh.2).1
    · exact (isB_lt hh.2).1
  have h4 : isB x c 4 = false := by
    rw [← Bool.not_eq_true]; intro hh
    have e1 := (isB_lt hh).2
    rcases ho with hh2 | hh2
    · have := (isB_lt hh2.2).2; omega
    · have := (isB_lt hh2.2).2; omega
  have js : Ev (fun k => spec_l3Block.f k x (wrap64 ((c : Int) + 1))) (d : Int) := l3E_step x c hcl hx j1
  refine Ev.step (fun k => by rw [spec_l3End.f]) ?_
  refine Ev.bind (l3E_step x a h hx k1) ?_
  simp only [if_pos (show 0 ≤ (a : Int) by omega), if_pos (show (a : Int) < (x.length : Int) by omega), hop, specIs_eq x hx, Option.bind_some, h4, Bool.false_eq_true, if_false]
  rcases ho with ⟨e2, e3⟩ | ⟨e2, e3⟩
  · simp only [e2, if_neg (show ¬ (2 : Int) = 5 by decide), if_true, e3]
    refine Ev.bind js ?_
    simp only [specIs_eq x hx, Option.bind_some, h5, if_true]
    exact Ev.now _
  · simp only [e2, if_neg (show ¬ (8 : Int) = 5 by decide), if_neg (show ¬ (8 : Int) = 2 by decide), if_true, e3]
    refine Ev.bind js ?_
    simp only [specIs_eq x hx, Option.bind_some, h5, if_true]
    exact Ev.now _
/-- The reference's block of what is well nested. -/
theorem nst_block (x : List S114) (hx : x.length ≤ 1000) {a e : Nat} {l : List S163} (h : Nst x a e l) : Ev (fun k => spec_l3Block.l0 k x (a : Int)) (e : Int) := by
  induction h with
  | @nil a h =>
    by_cases c : x.length ≤ a
    · exact l3B_end x a c
    · exact l3B_stop x a (by omega) (by rcases h with h | h; exact absurd h c; exact h)
  | leaf h ho _ ih => exact l3B_leaf x hx _ h ho ih
  | one h ho hb hc hr ih1 ih2 => exact l3B_nest x hx _ h (by omega) (by have := (isB_lt hc).1; omega) (l3E_one x hx _ _ h ho ih1 hc) ih2
  | two h ho hb hm hd hr ih1 ih2 ih3 => exact l3B_nest x hx _ h (by omega) (by have := (isB_lt hd).1; omega) (l3E_two x hx _ _ _ h ho ih1 ih2 hd) ih3
theorem bnd_seq {A1 A2 B1 B2 v1 v2 : Nat} (h1 : A1 * (v1 + 1) ≤ B1) (h2 : A2 * (v2 + 1) ≤ B2) : A1 * A2 * (v1 + v2 + 1) ≤ B1 * B2 := by
  have h3 : v1 + v2 + 1 ≤ (v1 + 1) * (v2 + 1) := by rw [Nat.add_mul, Nat.mul_add]; omega
  calc A1 * A2 * (v1 + v2 + 1) ≤ A1 * A2 * ((v1 + 1) * (v2 + 1)) := Nat.mul_le_mul_left _ h3
    _ = A1 * (v1 + 1) * (A2 * (v2 + 1)) := by rw [Nat.mul_mul_mul_comm]
    _ ≤ B1 * B2 := Nat.mul_le_mul h1 h2
theorem bnd_one {A B v n : Nat} (h : A * (v + 1) ≤ B) (hv : n + 1 ≤ 6 * (v + 1)) : A * 4 * (n + 1) ≤ B * 25 := by
  calc A * 4 * (n + 1) ≤ A * 4 * (6 * (v + 1)) := Nat.mul_le_mul_left _ hv
    _ = A * (v + 1) * 24 := by rw [Nat.mul_mul_mul_comm, Nat.mul_comm (A * 6), ← Nat.mul_assoc, Nat.mul_comm (4 * (v + 1) * A) 6, Nat.mul_comm (4 * (v + 1)) A, ← Nat.mul_assoc A, Nat.mul_right_comm A 4]; omega
    _ ≤ B * 25 := by omega
theorem bnd_two {A1 A2 B1 B2 v1 v2 n : Nat} (h1 : A1 * (v1 + 1) ≤ B1) (h2 : A2 * (v2 + 1) ≤ B2) (hv : n + 1 ≤ 2 * (v1 + v2 + 1)) : A1 * A2 * 8 * (n + 1) ≤ B1 * B2 * 125 := by
  have h3 := bnd_seq h1 h2
  generalize A1 * A2 = A at h3 ⊢
  generalize B1 * B2 = B at h3 ⊢
  generalize v1 + v2 + 1 = V at h3 hv
  calc A * 8 * (n + 1) ≤ A * 8 * (2 * V) := Nat.mul_le_mul_left _ hv
    _ = A * V * 16 := by rw [Nat.mul_mul_mul_comm, Nat.mul_comm (A * 2), ← Nat.mul_assoc, Nat.mul_comm (8 * V * A) 2, Nat.mul_comm (8 * V) A, ← Nat.mul_assoc A, Nat.mul_right_comm A 8]; omega
    _ ≤ B * 125 := by omega
theorem bnd_num {m v : Nat} (hm : m ≤ 40) (h : 2 ^ m * (v + 1) ≤ 5 ^ m) : v ≤ 10000000000000000 := by
  have h1 : 2 ^ (40 - m) * (2 ^ m * (v + 1)) ≤ 5 ^ (40 - m) * 5 ^ m := Nat.mul_le_mul (Nat.pow_le_pow_left (by omega) _) h
  rw [← Nat.mul_assoc, ← Nat.pow_add, ← Nat.pow_add, show 40 - m + m = 40 by omega] at h1
  have h2 : (1099511627776 : Nat) * (v + 1) ≤ 9094947017729282379150390625 := h1
  omega
def SpecS (x : List S114) (a e v : Nat) : Prop := ∀ acc : Nat, acc + v ≤ 100000000000000000 → Ev (fun k => spec_l3Steps.l0 k x (e : Int) (acc : Int) (a : Int)) ((acc + v : Nat) : Int)
def ImplS (x : List S114) (l : List S163) (v : Nat) : Prop := ∀ (L : List S163) (i s : Nat), L.drop i = l → L.length ≤ 1000 → s ≤ 4000 → Ev (fun k => impl_stepsIn.l0 k x (s : Int) L (L.length : Int) (i : Int)) ((min (s + v) 4000 : Nat) : Int)
theorem SpecS.f {x : List S114} {a e v : Nat} (h : SpecS x a e v) (hv : v ≤ 10000000000000000) : Ev (fun k => spec_l3Steps.f k x (a : Int) (e : Int)) (v : Int) := by
  refine Ev.step (fun k => by rw [spec_l3Steps.f]) ?_
  exact (h 0 (by omega)).cast (by rw [Nat.zero_add])
theorem ImplS.f {x : List S114} {l : List S163} {v : Nat} (h : ImplS x l v) (hl : l.length ≤ 1000) : Ev (fun k => impl_stepsIn.f k x l) ((min v 4000 : Nat) : Int) := by
  refine Ev.step (fun k => by rw [impl_stepsIn.f]) ?_
  exact (h l 0 0 rfl hl (by omega)).cast (by rw [Nat.zero_add])
theorem rdNd_drop {L l : List S163} {y : S163} {i : Nat} (h : L.drop i = y :: l) : i < L.length ∧ rd_T163 L (i : Int) = y ∧ L.drop (i + 1) = l := by
  have hi : i < L.length := by
    refine Classical.byContradiction fun c => ?_
    rw [List.drop_of_length_le (by omega)] at h
    cases h
  rw [List.drop_eq_getElem_cons hi, List.cons.injEq] at h
  refine ⟨hi, ?_, h.2⟩
  simp only [rd_T163, Int.toNat_natCast, List.getD_eq_getElem?_getD, List.getElem?_eq_getElem hi, Option.getD_some]
  exact h.1
/-- One turn of the program's count. -/
theorem implS_cons {x : List S114} {a : Nat} {b o l : List S163} {n v : Nat} (ha : a < x.length) (hx : x.length ≤ 40)
    (h : ∀ (L : List S163) (i s : Nat), i < 1000 → s ≤ 4000 → ∀ r : Int, Ev (fun k => impl_stepsIn.l0 k x ((min (s + n) 4000 : Nat) : Int) L (L.length : Int) ((i + 1 : Nat) : Int)) r →
      Ev (fun k => if ((rd_T114 x (a : Int)).f0) = 2 then ((impl_stepsIn.f k x b).bind fun t430 => ((impl_stepsIn.f k x o).bind fun t431 => (impl_stepsIn.l0 k x (mn (wrap64 ((s : Int) + (wrap64 (1 + (mx t430 t431))))) 4000) L (L.length : Int) (wrap64 ((i : Int) + 1))))) else (if ((rd_T114 x (a : Int)).f0) = 5 then ((impl_stepsIn.f k x b).bind fun t432 => (impl_stepsIn.l0 k x (mn (wrap64 ((s : Int) + (wrap64 (1 + (wrap64 (((rd_T114 x (a : Int)).f1) * (wrap64 (1 + t432)))))))) 4000) L (L.length : Int) (wrap64 ((i : Int) + 1)))) else (if ((rd_T114 x (a : Int)).f0) = 8 then ((impl_stepsIn.f k x b).bind fun t433 => ((impl_stepsIn.f k x o).bind fun t434 => (impl_stepsIn.l0 k x (mn (wrap64 ((s : Int) + (wrap64 ((wrap64 (1 + t433)) + t434)))) 4000) L (L.length : Int) (wrap64 ((i : Int) + 1))))) else (impl_stepsIn.l0 k x (mn (wrap64 ((s : Int) + 1)) 4000) L (L.length : Int) (wrap64 ((i : Int) + 1)))))) r)
    (hr : ImplS x l v) : ImplS x (⟨(a : Int), b, o⟩ :: l) (n + v) := by
  intro L i s hd hL hs
  obtain ⟨hi, e1, e2⟩ := rdNd_drop hd
  refine Ev.step (fun k => by rw [impl_stepsIn.l0]) ?_
  simp only [if_pos (show (i : Int) < (L.length : Int) by omega), if_pos (show 0 ≤ (i : Int) by omega), e1, if_pos (show 0 ≤ (a : Int) by omega), if_pos (show (a : Int) < (x.length : Int) by omega)]
  refine h L i s (by omega) hs _ ?_
  exact (hr L (i + 1) (min (s + n) 4000) e2 hL (by omega)).cast (by congr 1; omega)
theorem mn_cap (s n : Nat) (z : Int) (hz : z = ((s + n : Nat) : Int)) : mn z 4000 = ((min (s + n) 4000 : Nat) : Int) := by
  subst hz; unfold mn
  by_cases c : (4000 : Int) < ((s + n : Nat) : Int)
  · rw [if_pos c]; omega
  · rw [if_neg c]; omega
theorem steps_all (x : List S114) (hx : x.length ≤ 40) (hN : ∀ a, a < x.length → opx x a = 5 → 0 ≤ (rd_T114 x (a : Int)).f1 ∧ (rd_T114 x (a : Int)).f1 ≤ 4) {a e : Nat} {l : List S163} (h : Nst x a e l) :
    e ≤ x.length → ∃ v : Nat, l.length ≤ e - a ∧ 2 ^ (e - a) * (v + 1) ≤ 5 ^ (e - a) ∧ SpecS x a e v ∧ ImplS x l v := by
  have hop : ∀ a : Nat, (rd_T114 x (a : Int)).f0 = opx x a := fun _ => rfl
  have emp : ImplS x [] 0 := by
    intro L i s hd hL hs
    have hi : L.length ≤ i := by
      refine Classical.byContradiction fun c => ?_
      rw [List.drop_eq_getElem_cons (by omega)] at hd
      cases hd
    refine Ev.step (fun k => by rw [impl_stepsIn.l0]) ?_
    simp only [if_neg (show ¬ (i : Int) < (L.length : Int) by omega)]
    exact (Ev.now _).cast (by congr 1; omega)
  induction h with
  | @nil a h =>
    intro he
    refine ⟨0, by simp, by simp, fun acc hacc => ?_, emp⟩
    refine Ev.step (fun k => by rw [spec_l3Steps.l0]) ?_
    simp only [if_neg (show ¬ (a : Int) < (a : Int) by omega)]
    exact Ev.now _
  | @leaf a e l h ho hr ih =>
    intro he
    obtain ⟨v, h1, h2, h3, h4⟩ := ih he
    have hle := hr.le
    have ex : e - a = (e - (a + 1)) + 1 := by omega
    refine ⟨1 + v, by simp only [List.length_cons]; omega, ?_, fun acc hacc => ?_, ?_⟩
    · rw [ex, Nat.pow_add 2 _ 1, Nat.pow_add 5 _ 1, Nat.mul_comm (2 ^ (e - (a + 1))), Nat.mul_comm (5 ^ (e - (a + 1)))]
      exact bnd_seq (A1 := 2 ^ 1) (B1 := 5 ^ 1) (v1 := 1) (by decide) h2
    · have k1 := specEnd_leaf x (by omega) a h ⟨ho.1, ho.2.2.2.1, ho.2.2.2.2.1⟩
      refine Ev.step (fun k => by rw [spec_l3Steps.l0]) ?_
      simp only [if_pos (show (a : Int) < (e : Int) by omega)]
      refine Ev.bind k1 ?_
      simp only [if_pos (show 0 ≤ (a : Int) by omega), if_pos (show (a : Int) < (x.length : Int) by omega), hop, if_neg ho.1, if_neg ho.2.2.2.1, if_neg ho.2.2.2.2.1, if_pos (show (-1 : Int) < 0 by decide), wrap_succ (show a < 9223372036854775807 by omega), wrap_succ (show acc < 9223372036854775807 by omega)]
      exact (h3 (acc + 1) (by omega)).cast (by rw [Nat.add_assoc])
    · refine implS_cons h hx (fun L i s hL hs r hr => ?_) h4
      simp only [hop, if_neg ho.1, if_neg ho.2.2.2.1, if_neg ho.2.2.2.2.1]
      rw [wrap_succ (show s < 9223372036854775807 by omega), mn_cap s 1 _ rfl, wrap_succ (show i < 9223372036854775807 by omega)] at *
      exact hr
  | @one a c e b l h ho hb hc hr ihb ihr =>
    intro he
    have hcl := (isB_lt hc).1
    obtain ⟨vb, b1, b2, b3, b4⟩ := ihb (by omega)
    obtain ⟨v, h1, h2, h3, h4⟩ := ihr he
    have hle := hr.le
    have hlb := hb.le
    have ex : e - a = ((c - (a + 1)) + 2) + (e - (c + 1)) := by omega
    have nb := bnd_num (by omega) b2
    have nv := bnd_num (by omega) h2
    have k1 := l3E_one x (by omega) a c h ho (nst_block x (by omega) hb) hc
    have fb := b3.f nb
    have gb := b4.f (by omega)
    have g0 := emp.f (by simp)
    rcases ho with ho | ho
    · refine ⟨(1 + vb) + v, by simp only [List.length_cons]; omega, ?_, fun acc hacc => ?_, ?_⟩
      · rw [ex, Nat.pow_add 2 _ (e - (c + 1)), Nat.pow_add 5 _ (e - (c + 1))]
        refine bnd_seq ?_ h2
        rw [Nat.pow_add 2 _ 2, Nat.pow_add 5 _ 2]
        exact bnd_one b2 (by omega)
      · refine Ev.step (fun k => by rw [spec_l3Steps.l0]) ?_
        simp only [if_pos (show (a : Int) < (e : Int) by omega)]
        refine Ev.bind k1 ?_
        simp only [if_pos (show 0 ≤ (a : Int) by omega), if_pos (show (a : Int) < (x.length : Int) by omega), hop, if_pos ho, if_pos (show (-1 : Int) < 0 by decide), wrap_succ (show a < 9223372036854775807 by omega)]
        refine Ev.bind fb ?_
        simp only [if_neg (show ¬ (c : Int) < 0 by omega), wrap_succ (show c < 9223372036854775807 by omega), wrap_succ (show acc < 9223372036854775807 by omega)]
        rw [show wrap64 (((acc + 1 : Nat) : Int) + (vb : Int)) = ((acc + (1 + vb) : Nat) : Int) by rw [wrap_id (by omega) (by omega)]; omega]
        exact (h3 (acc + (1 + vb)) (by omega)).cast (by rw [Nat.add_assoc])
      · refine implS_cons h hx (fun L i s hL hs r hr => ?_) h4
        simp only [hop, if_pos ho]
        refine Ev.bind gb ?_
        refine Ev.bind g0 ?_
        have em : mn (wrap64 ((s : Int) + wrap64 (1 + mx ((min vb 4000 : Nat) : Int) ((min 0 4000 : Nat) : Int)))) 4000 = ((min (s + (1 + vb)) 4000 : Nat) : Int) := by
          have e1 : mx ((min vb 4000 : Nat) : Int) ((min 0 4000 : Nat) : Int) = ((min vb 4000 : Nat) : Int) := by unfold mx; rw [if_neg (by omega)]
          rw [e1, wrap_id (x := 1 + ((min vb 4000 : Nat) : Int)) (by omega) (by omega), wrap_id (by omega) (by omega), mn_cap s (1 + min vb 4000) _ (by omega)]
          congr 1; omega
        simp only [em, wrap_succ (show i < 9223372036854775807 by omega)]
        exact hr
    · obtain ⟨n0, n1⟩ := hN a h ho
      obtain ⟨N, hNe⟩ := Int.eq_ofNat_of_zero_le n0
      have hN4 : N ≤ 4 := by omega
      have hm : N * (1 + vb) ≤ 4 * (1 + vb) := Nat.mul_le_mul_right _ hN4
      have o2 : opx x a ≠ 2 := by omega
      refine ⟨(1 + N * (1 + vb)) + v, by simp only [List.length_cons]; omega, ?_, fun acc hacc => ?_, ?_⟩
      · rw [ex, Nat.pow_add 2 _ (e - (c + 1)), Nat.pow_add 5 _ (e - (c + 1))]
        refine bnd_seq ?_ h2
        rw [Nat.pow_add 2 _ 2, Nat.pow_add 5 _ 2]
        exact bnd_one b2 (by omega)
      · refine Ev.step (fun k => by rw [spec_l3Steps.l0]) ?_
        simp only [if_pos (show (a : Int) < (e : Int) by omega)]
        refine Ev.bind k1 ?_
        simp only [if_pos (show 0 ≤ (a : Int) by omega), if_pos (show (a : Int) < (x.length : Int) by omega), hop, if_neg o2, if_pos ho, wrap_succ (show a < 9223372036854775807 by omega)]
        refine Ev.bind fb ?_
        simp only [if_neg (show ¬ (c : Int) < 0 by omega), wrap_succ (show c < 9223372036854775807 by omega), wrap_succ (show acc < 9223372036854775807 by omega), hNe]
        rw [show wrap64 (((acc + 1 : Nat) : Int) + wrap64 ((N : Int) * wrap64 (1 + (vb : Int)))) = ((acc + (1 + N * (1 + vb)) : Nat) : Int) by
          rw [wrap_id (x := 1 + (vb : Int)) (by omega) (by omega), show (N : Int) * (1 + (vb : Int)) = ((N * (1 + vb) : Nat) : Int) by rw [Int.natCast_mul]; rfl, wrap_id (x := ((N * (1 + vb) : Nat) : Int)) (by omega) (by omega), wrap_id (by omega) (by omega)]; omega]
        exact (h3 (acc + (1 + N * (1 + vb))) (by omega)).cast (by rw [Nat.add_assoc])
      · refine implS_cons h hx (fun L i s hL hs r hr => ?_) h4
        simp only [hop, if_neg o2, if_pos ho]
        refine Ev.bind gb ?_
        have em : mn (wrap64 ((s : Int) + wrap64 (1 + wrap64 ((rd_T114 x (a : Int)).f1 * wrap64 (1 + ((min vb 4000 : Nat) : Int)))))) 4000 = ((min (s + (1 + N * (1 + vb))) 4000 : Nat) : Int) := by
          have hm2 : N * (1 + min vb 4000) ≤ 4 * (1 + min vb 4000) := Nat.mul_le_mul_right _ hN4
          rw [hNe, wrap_id (x := 1 + ((min vb 4000 : Nat) : Int)) (by omega) (by omega), show ((N : Nat) : Int) * (1 + ((min vb 4000 : Nat) : Int)) = ((N * (1 + min vb 4000) : Nat) : Int) by rw [Int.natCast_mul]; rfl, wrap_id (x := ((N * (1 + min vb 4000) : Nat) : Int)) (by omega) (by omega), wrap_id (x := 1 + ((N * (1 + min vb 4000) : Nat) : Int)) (by omega) (by omega), wrap_id (by omega) (by omega), mn_cap s (1 + N * (1 + min vb 4000)) _ (by omega)]
          congr 1
          by_cases cN : N = 0
          · subst cN; simp
          by_cases cv : vb ≤ 4000
          · rw [Nat.min_eq_left cv]
          · have g1 : 1 * (1 + 4000) ≤ N * (1 + 4000) := Nat.mul_le_mul_right _ (by omega)
            have g2 : 1 * (1 + vb) ≤ N * (1 + vb) := Nat.mul_le_mul_right _ (by omega)
            rw [Nat.min_eq_right (show 4000 ≤ vb by omega)]
            omega
        simp only [em, wrap_succ (show i < 9223372036854775807 by omega)]
        exact hr
  | @two a c d e b o l h ho hb hm hd hr ihb iho ihr =>
    intro he
    have hdl := (isB_lt hd).1
    have hcl : c < x.length := by
      rcases ho with hh | hh
      · exact (isB_lt hh.2).1
      · exact (isB_lt hh.2).1
    obtain ⟨vb, b1, b2, b3, b4⟩ := ihb (by omega)
    obtain ⟨vo, o1, o2, o3, o4⟩ := iho (by omega)
    obtain ⟨v, h1, h2, h3, h4⟩ := ihr he
    have hle := hr.le
    have hlb := hb.le
    have hlm := hm.le
    have ex : e - a = ((c - (a + 1)) + (d - (c + 1)) + 3) + (e - (d + 1)) := by omega
    have nb := bnd_num (by omega) b2
    have no := bnd_num (by omega) o2
    have nv := bnd_num (by omega) h2
    have k1 := l3E_two x (by omega) a c d h ho (nst_block x (by omega) hb) (nst_block x (by omega) hm) hd
    have fb := b3.f nb
    have gb := b4.f (by omega)
    have fo := o3.f no
    have go := o4.f (by omega)
    rcases ho with ⟨ho, _⟩ | ⟨ho, _⟩
    · refine ⟨(1 + max vb vo) + v, by simp only [List.length_cons]; omega, ?_, fun acc hacc => ?_, ?_⟩
      · rw [ex, Nat.pow_add 2 _ (e - (d + 1)), Nat.pow_add 5 _ (e - (d + 1))]
        refine bnd_seq ?_ h2
        rw [Nat.pow_add 2 _ 3, Nat.pow_add 5 _ 3, Nat.pow_add 2 _ (d - (c + 1)), Nat.pow_add 5 _ (d - (c + 1))]
        exact bnd_two b2 o2 (by omega)
      · refine Ev.step (fun k => by rw [spec_l3Steps.l0]) ?_
        simp only [if_pos (show (a : Int) < (e : Int) by omega)]
        refine Ev.bind k1 ?_
        simp only [if_pos (show 0 ≤ (a : Int) by omega), if_pos (show (a : Int) < (x.length : Int) by omega), hop, if_pos ho, if_neg (show ¬ (c : Int) < 0 by omega), wrap_succ (show a < 9223372036854775807 by omega)]
        refine Ev.bind fb ?_
        simp only [wrap_succ (show c < 9223372036854775807 by omega)]
        refine Ev.bind fo ?_
        rw [show spec_l1Max.f (vb : Int) (vo : Int) = some ((max vb vo : Nat) : Int) by
          unfold spec_l1Max.f
          by_cases cc : (vb : Int) > (vo : Int)
          · rw [if_pos cc]; congr 1; omega
          · rw [if_neg cc]; congr 1; omega]
        simp only [Option.bind_some, if_neg (show ¬ (d : Int) < 0 by omega), wrap_succ (show d < 9223372036854775807 by omega), wrap_succ (show acc < 9223372036854775807 by omega)]
        rw [show wrap64 (((acc + 1 : Nat) : Int) + ((max vb vo : Nat) : Int)) = ((acc + (1 + max vb vo) : Nat) : Int) by rw [wrap_id (by omega) (by omega)]; omega]
        exact (h3 (acc + (1 + max vb vo)) (by omega)).cast (by rw [Nat.add_assoc])
      · refine implS_cons h hx (fun L i s hL hs r hr => ?_) h4
        simp only [hop, if_pos ho]
        refine Ev.bind gb ?_
        refine Ev.bind go ?_
        have em : mn (wrap64 ((s : Int) + wrap64 (1 + mx ((min vb 4000 : Nat) : Int) ((min vo 4000 : Nat) : Int)))) 4000 = ((min (s + (1 + max vb vo)) 4000 : Nat) : Int) := by
          have e1 : mx ((min vb 4000 : Nat) : Int) ((min vo 4000 : Nat) : Int) = ((min (max vb vo) 4000 : Nat) : Int) := by
            unfold mx
            by_cases cc : ((min vb 4000 : Nat) : Int) < ((min vo 4000 : Nat) : Int)
            · rw [if_pos cc]; omega
            · rw [if_neg cc]; omega
          rw [e1, wrap_id (x := 1 + ((min (max vb vo) 4000 : Nat) : Int)) (by omega) (by omega), wrap_id (by omega) (by omega), mn_cap s (1 + min (max vb vo) 4000) _ (by omega)]
          congr 1; omega
        simp only [em, wrap_succ (show i < 9223372036854775807 by omega)]
        exact hr
    · have q2 : opx x a ≠ 2 := by omega
      have q5 : opx x a ≠ 5 := by omega
      refine ⟨(1 + vb + vo) + v, by simp only [List.length_cons]; omega, ?_, fun acc hacc => ?_, ?_⟩
      · rw [ex, Nat.pow_add 2 _ (e - (d + 1)), Nat.pow_add 5 _ (e - (d + 1))]
        refine bnd_seq ?_ h2
        rw [Nat.pow_add 2 _ 3, Nat.pow_add 5 _ 3, Nat.pow_add 2 _ (d - (c + 1)), Nat.pow_add 5 _ (d - (c + 1))]
        exact bnd_two b2 o2 (by omega)
      · refine Ev.step (fun k => by rw [spec_l3Steps.l0]) ?_
        simp only [if_pos (show (a : Int) < (e : Int) by omega)]
        refine Ev.bind k1 ?_
        simp only [if_pos (show 0 ≤ (a : Int) by omega), if_pos (show (a : Int) < (x.length : Int) by omega), hop, if_neg q2, if_neg q5, if_pos ho, wrap_succ (show a < 9223372036854775807 by omega)]
        refine Ev.bind fb ?_
        simp only [wrap_succ (show c < 9223372036854775807 by omega)]
        refine Ev.bind fo ?_
        simp only [if_neg (show ¬ (d : Int) < 0 by omega), wrap_succ (show d < 9223372036854775807 by omega), wrap_succ (show acc < 9223372036854775807 by omega)]
        rw [show wrap64 (wrap64 (((acc + 1 : Nat) : Int) + (vb : Int)) + (vo : Int)) = ((acc + (1 + vb + vo) : Nat) : Int) by rw [wrap_id (x := ((acc + 1 : Nat) : Int) + (vb : Int)) (by omega) (by omega), wrap_id (by omega) (by omega)]; omega]
        exact (h3 (acc + (1 + vb + vo)) (by omega)).cast (by rw [Nat.add_assoc])
      · refine implS_cons h hx (fun L i s hL hs r hr => ?_) h4
        simp only [hop, if_neg q2, if_neg q5, if_pos ho]
        refine Ev.bind gb ?_
        refine Ev.bind go ?_
        have em : mn (wrap64 ((s : Int) + wrap64 (wrap64 (1 + ((min vb 4000 : Nat) : Int)) + ((min vo 4000 : Nat) : Int)))) 4000 = ((min (s + (1 + vb + vo)) 4000 : Nat) : Int) := by
          rw [wrap_id (x := 1 + ((min vb 4000 : Nat) : Int)) (by omega) (by omega), wrap_id (x := 1 + ((min vb 4000 : Nat) : Int) + ((min vo 4000 : Nat) : Int)) (by omega) (by omega), wrap_id (by omega) (by omega), mn_cap s (1 + min vb 4000 + min vo 4000) _ (by omega)]
          congr 1; omega
        simp only [em, wrap_succ (show i < 9223372036854775807 by omega)]
        exact hr

/-- All that is known of a Prog that is right. -/
structure Right (n : Nat) (a b : List S106) (t : Int) (c : List Int) (x : List S114) (l : List S163) (v : Nat) : Prop where
  rt : Rt n a b t
  n1 : 1 ≤ n
  ins : insOk n a b = true
  room : roomOk t c x = true
  sts : x.all (stR n a b t c) = true
  nst : Nst x 0 x.length l
  blk : BlkOk x 0 x.length l
  len : l.length ≤ 1000
  v4 : v ≤ 400
  spec : SpecS x 0 x.length v
  impl : ImplS x l v
theorem insOk_iff {n : Nat} {a b : List S106} : insOk n a b = true ↔ a.length ≤ 3 ∧ b.length ≤ 3 ∧ (∀ e ∈ a, inOk (((2 ^ n : Nat) : Int) - 1) true e = true) ∧ (∀ e ∈ b, inOk (((2 ^ n : Nat) : Int) - 1) false e = true) ∧ sumBits a + sumBits b ≤ 10 := by
  simp only [insOk, Bool.and_eq_true, decide_eq_true_eq, List.all_eq_true, and_assoc]
theorem roomOk_iff {t : Int} {c : List Int} {x : List S114} : roomOk t c x = true ↔ 0 ≤ t ∧ t ≤ 6 ∧ c.length ≤ 2 ∧ x.length ≤ 40 ∧ ∀ u ∈ c, 1 ≤ u ∧ u ≤ 6 := by
  simp only [roomOk, cellOk, Bool.and_eq_true, decide_eq_true_eq, List.all_eq_true, and_assoc]
/-- What comes behind the inputs. -/
theorem specCode_ins (n : Nat) (hn : n ≤ 8) (h1 : 1 ≤ n) (a b : List S106) (ha : a.length ≤ 1048576) (hb : b.length ≤ 1048576) (t : Int) (c : List Int) (x : List S114) (r : Int) (h : insOk n a b = true → Ev (fun k => spec_CodeOf.j0 k false (n : Int) a b t c x) r) (h0 : insOk n a b = false → r = 2) : Ev (fun k => spec_CodeOf.f k (n : Int) a b t c x) r := by
  have hp := pow8 n hn
  have no : insOk n a b = false → Ev (fun k => spec_CodeOf.j0 k true (n : Int) a b t c x) r := by
    intro hh
    rw [h0 hh]
    refine Ev.step (fun k => by rw [spec_CodeOf.j0]) ?_
    simp only [if_true]; exact Ev.now _
  simp only [spec_CodeOf.f, l1In_eq, Option.bind_some, decide_eq_true (show (1 : Int) ≤ (n : Int) by omega), decide_eq_true (show (n : Int) ≤ 8 by omega), Bool.and_self, if_true]
  refine Ev.bind (specInputs_ev n hn a b t c x a ha true) ?_
  by_cases c1 : (a.all (inOk (((2 ^ n : Nat) : Int) - 1) true) && decide (a.length ≤ 3)) = true
  · simp only [if_pos c1]
    refine Ev.bind (specInputs_ev n hn a b t c x b hb false) ?_
    by_cases c2 : (b.all (inOk (((2 ^ n : Nat) : Int) - 1) false) && decide (b.length ≤ 3)) = true
    · simp only [if_pos c2]
      simp only [Bool.and_eq_true, List.all_eq_true, decide_eq_true_eq] at c1 c2
      simp only [spec_l3AllBits.f]
      refine Ev.bind ((specAllBits_l0 (((2 ^ n : Nat) : Int) - 1) (by omega) (n : Int) a b t c x c1.1 c2.1 c1.2 c2.2 a.length 0 0 (by omega) (by omega)).cast (by rw [List.drop_zero, Nat.zero_add])) ?_
      by_cases c3 : ((sumBits a + sumBits b : Nat) : Int) > 10
      · simp only [decide_eq_true c3]
        refine no ?_
        rw [← Bool.not_eq_true, insOk_iff]; omega
      · simp only [decide_eq_false c3]
        exact h (insOk_iff.2 ⟨c1.2, c2.2, c1.1, c2.1, by omega⟩)
    · simp only [if_neg c2]
      refine no ?_
      rw [← Bool.not_eq_true, insOk_iff]
      intro hh
      exact c2 (by simp only [Bool.and_eq_true, List.all_eq_true, decide_eq_true_eq]; exact ⟨hh.2.2.2.1, hh.2.1⟩)
  · simp only [if_neg c1]
    refine no ?_
    rw [← Bool.not_eq_true, insOk_iff]
    intro hh
    exact c1 (by simp only [Bool.and_eq_true, List.all_eq_true, decide_eq_true_eq]; exact ⟨hh.2.2.1, hh.1⟩)
theorem implSts_yes {n : Nat} {a b : List S106} {t : Int} (h : Rt n a b t) (c : List Int) (hc : c.length ≤ 2) (x : List S114) (hx : x.length ≤ 1048576) (hq : ∀ s ∈ x, s.f2.length ≤ 1048576 ∧ s.f3.length ≤ 1048576) {r : Int} (hr : Ev (fun k => (impl_nodesOf.f k x).bind fun p => if p.2 = true then ((impl_stepsIn.f k x p.1).bind fun t444 => (if t444 > 400 then (some 6) else (some 0))) else (some 5)) r) (d : Nat) : ∀ i : Nat, i + d = x.length → (∀ s ∈ x.drop i, stR n a b t c s = true) → Ev (fun k => impl_CodeOf.l0 k (x.length : Int) (i : Int) (n : Int) a b t c x) r := by
  induction d with
  | zero =>
    intro i hi hs
    refine Ev.step (fun k => by rw [impl_CodeOf.l0]) ?_
    simp only [if_neg (show ¬ (i : Int) < (x.length : Int) by omega)]
    exact hr
  | succ d ih =>
    intro i hi hs
    have hil : i < x.length := by omega
    have hm := hq _ (List.getElem_mem hil)
    rw [List.drop_eq_getElem_cons hil] at hs
    refine Ev.step (fun k => by rw [impl_CodeOf.l0]) ?_
    simp only [if_pos (show (i : Int) < (x.length : Int) by omega), if_pos (show 0 ≤ (i : Int) by omega), rdSt_at x i hil, wrap_succ (show i < 9223372036854775807 by omega)]
    refine Ev.bind ((implSt_ev h c hc x x[i] hm.1 hm.2).cast (hs _ List.mem_cons_self)) ?_
    simp only [if_true]
    exact ih (i + 1) (by omega) (fun s hs' => hs s (List.mem_cons_of_mem _ hs'))
theorem implSts_no {n : Nat} {a b : List S106} {t : Int} (h : Rt n a b t) (c : List Int) (hc : c.length ≤ 2) (x : List S114) (hx : x.length ≤ 1048576) (hq : ∀ s ∈ x, s.f2.length ≤ 1048576 ∧ s.f3.length ≤ 1048576) (d : Nat) : ∀ i : Nat, i + d = x.length → (x.drop i).all (stR n a b t c) = false → Ev (fun k => impl_CodeOf.l0 k (x.length : Int) (i : Int) (n : Int) a b t c x) 4 := by
  induction d with
  | zero =>
    intro i hi hs
    rw [List.drop_of_length_le (show x.length ≤ i by omega)] at hs
    cases hs
  | succ d ih =>
    intro i hi hs
    have hil : i < x.length := by omega
    have hm := hq _ (List.getElem_mem hil)
    rw [List.drop_eq_getElem_cons hil, List.all_cons] at hs
    refine Ev.step (fun k => by rw [impl_CodeOf.l0]) ?_
    simp only [if_pos (show (i : Int) < (x.length : Int) by omega), if_pos (show 0 ≤ (i : Int) by omega), rdSt_at x i hil, wrap_succ (show i < 9223372036854775807 by omega)]
    refine Ev.bind (implSt_ev h c hc x x[i] hm.1 hm.2) ?_
    cases e : stR n a b t c x[i]
    · simp only [Bool.false_eq_true, if_false]
      exact Ev.now _
    · simp only [if_true]
      rw [e, Bool.true_and] at hs
      exact ih (i + 1) (by omega) hs
theorem stR_loop {n : Nat} {a b : List S106} {t : Int} {c : List Int} {s : S114} (h : stR n a b t c s = true) (ho : s.f0 = 5) : 0 ≤ s.f1 ∧ s.f1 ≤ 4 := by
  simp only [stR, ho, if_neg (show ¬ (5 : Int) = 0 by decide), if_neg (show ¬ (5 : Int) = 1 by decide), if_neg (show ¬ (5 : Int) = 2 by decide), if_neg (show ¬ (5 : Int) = 6 by decide), if_true, rng, Bool.and_eq_true, decide_eq_true_eq] at h
  exact h.1
/-- Both tell one number; where it is 0 the Prog is right. -/
theorem codeOf_all (w : Int) (a b : List S106) (ha : a.length ≤ 1048576) (hb : b.length ≤ 1048576) (t : Int) (c : List Int) (x : List S114) (hx : x.length ≤ 1048576) (hq : ∀ s ∈ x, s.f2.length ≤ 1048576 ∧ s.f3.length ≤ 1048576) :
    ∃ r : Int, Ev (fun k => spec_CodeOf.f k w a b t c x) r ∧ Ev (fun k => impl_CodeOf.f k w a b t c x) r ∧ (r = 0 → ∃ (n : Nat) (l : List S163) (v : Nat), w = (n : Int) ∧ Right n a b t c x l v) := by
  have jT : Ev (fun k => impl_CodeOf.j0 k true w a b t c x) 1 := by
    refine Ev.step (fun k => by rw [impl_CodeOf.j0]) ?_
    simp only [if_true]; exact Ev.now _
  by_cases w0 : w < 1
  · refine ⟨1, ?_, ?_, fun h => by cases h⟩
    · simp only [spec_CodeOf.f, l1In_eq, Option.bind_some, decide_eq_false (show ¬ (1 : Int) ≤ w by omega), Bool.false_and, Bool.false_eq_true, if_false]
      exact Ev.now _
    · simp only [impl_CodeOf.f, if_pos w0]
      exact jT
  by_cases w8 : w > 8
  · refine ⟨1, ?_, ?_, fun h => by cases h⟩
    · simp only [spec_CodeOf.f, l1In_eq, Option.bind_some, decide_eq_false (show ¬ w ≤ 8 by omega), Bool.and_false, Bool.false_eq_true, if_false]
      exact Ev.now _
    · simp only [impl_CodeOf.f, if_neg w0, decide_eq_true w8]
      exact jT
  obtain ⟨n, rfl⟩ := Int.eq_ofNat_of_zero_le (show 0 ≤ w by omega)
  have hn : n ≤ 8 := by omega
  have h1 : 1 ≤ n := by omega
  -- how far the program comes
  have im : ∀ r : Int, Ev (fun k => (impl_inputRight.f k [(⟨(n : Int), a, b, t, c, x⟩ : S36)]).bind fun t436 => (if t436 = true then ((impl_roomRight.f k [(⟨(n : Int), a, b, t, c, x⟩ : S36)]).bind fun t437 => (if t437 = true then (impl_CodeOf.l0 k (x.length : Int) 0 (n : Int) a b t c x) else (some 3))) else (some 2))) r → Ev (fun k => impl_CodeOf.f k (n : Int) a b t c x) r := by
    intro r hr
    simp only [impl_CodeOf.f, if_neg w0, decide_eq_false w8]
    refine Ev.step (fun k => by rw [impl_CodeOf.j0]) ?_
    simp only [Bool.false_eq_true, if_false]
    exact hr
  cases ei : insOk n a b
  · refine ⟨2, specCode_ins n hn h1 a b ha hb t c x 2 (fun h => by rw [ei] at h; cases h) (fun _ => rfl), im 2 ?_, fun h => by cases h⟩
    refine Ev.bind ((implInput_ev n hn a b t c x).cast ei) ?_
    simp only [Bool.false_eq_true, if_false]
    exact Ev.now _
  obtain ⟨a3, b3, _⟩ := insOk_iff.1 ei
  have sp : ∀ r : Int, Ev (fun k => (spec_l3Room.f k (n : Int) a b t c x).bind fun t296 => (if t296 = true then ((spec_l3Stmts.f k (n : Int) a b t c x).bind fun t297 => (if t297 = true then ((spec_l3Block.f k x 0).bind fun t298 => (if t298 = (x.length : Int) then ((spec_l3Steps.f k x 0 (x.length : Int)).bind fun t299 => (if t299 > 400 then (some 6) else (some 0))) else (some 5))) else (some 4))) else (some 3))) r → Ev (fun k => spec_CodeOf.f k (n : Int) a b t c x) r := by
    intro r hr
    refine specCode_ins n hn h1 a b ha hb t c x r (fun _ => ?_) (fun h => by rw [ei] at h; cases h)
    refine Ev.step (fun k => by rw [spec_CodeOf.j0]) ?_
    simp only [Bool.false_eq_true, if_false]
    exact hr
  have im2 : ∀ r : Int, Ev (fun k => (impl_roomRight.f k [(⟨(n : Int), a, b, t, c, x⟩ : S36)]).bind fun t437 => (if t437 = true then (impl_CodeOf.l0 k (x.length : Int) 0 (n : Int) a b t c x) else (some 3))) r → Ev (fun k => impl_CodeOf.f k (n : Int) a b t c x) r := by
    intro r hr
    refine im r ?_
    refine Ev.bind ((implInput_ev n hn a b t c x).cast ei) ?_
    simp only [if_true]
    exact hr
  cases er : roomOk t c x
  · refine ⟨3, sp 3 ?_, im2 3 ?_, fun h => by cases h⟩
    · refine Ev.bind ((specRoom_ev (n : Int) a b t c x).cast er) ?_
      simp only [Bool.false_eq_true, if_false]
      exact Ev.now _
    · refine Ev.bind ((implRoom_ev (n : Int) a b t c x).cast er) ?_
      simp only [Bool.false_eq_true, if_false]
      exact Ev.now _
  obtain ⟨t0, t6, c2, x40, _⟩ := roomOk_iff.1 er
  have rt : Rt n a b t := ⟨hn, a3, b3, t0, t6⟩
  have sp2 : ∀ r : Int, Ev (fun k => (spec_l3Stmts.f k (n : Int) a b t c x).bind fun t297 => (if t297 = true then ((spec_l3Block.f k x 0).bind fun t298 => (if t298 = (x.length : Int) then ((spec_l3Steps.f k x 0 (x.length : Int)).bind fun t299 => (if t299 > 400 then (some 6) else (some 0))) else (some 5))) else (some 4))) r → Ev (fun k => spec_CodeOf.f k (n : Int) a b t c x) r := by
    intro r hr
    refine sp r ?_
    refine Ev.bind ((specRoom_ev (n : Int) a b t c x).cast er) ?_
    simp only [if_true]
    exact hr
  have im3 : ∀ r : Int, Ev (fun k => impl_CodeOf.l0 k (x.length : Int) 0 (n : Int) a b t c x) r → Ev (fun k => impl_CodeOf.f k (n : Int) a b t c x) r := by
    intro r hr
    refine im2 r ?_
    refine Ev.bind ((implRoom_ev (n : Int) a b t c x).cast er) ?_
    simp only [if_true]
    exact hr
  cases es : x.all (stR n a b t c)
  · refine ⟨4, sp2 4 ?_, im3 4 (implSts_no rt c c2 x hx hq x.length 0 (by omega) (by rw [List.drop_zero]; exact es)), fun h => by cases h⟩
    refine Ev.bind ((specStmts_ev rt c c2 x hx hq).cast es) ?_
    simp only [Bool.false_eq_true, if_false]
    exact Ev.now _
  have hst : ∀ s ∈ x, stR n a b t c s = true := by simpa using es
  have hN : ∀ i, i < x.length → opx x i = 5 → 0 ≤ (rd_T114 x (i : Int)).f1 ∧ (rd_T114 x (i : Int)).f1 ≤ 4 := by
    intro i hi ho
    rw [opx, rdSt_at x i hi] at ho
    rw [rdSt_at x i hi]
    exact stR_loop (hst _ (List.getElem_mem hi)) ho
  have sp3 : ∀ (r e : Int), Ev (fun k => spec_l3Block.l0 k x 0) e → Ev (fun k => if e = (x.length : Int) then ((spec_l3Steps.f k x 0 (x.length : Int)).bind fun t299 => (if t299 > 400 then (some 6) else (some 0))) else (some 5)) r → Ev (fun k => spec_CodeOf.f k (n : Int) a b t c x) r := by
    intro r e he hr
    refine sp2 r ?_
    refine Ev.bind ((specStmts_ev rt c c2 x hx hq).cast es) ?_
    simp only [if_true]
    refine Ev.bind (Ev.step (fun k => by rw [spec_l3Block.f]) he) ?_
    exact hr
  have im4 : ∀ (r : Int), Ev (fun k => (impl_nodesOf.f k x).bind fun p => if p.2 = true then ((impl_stepsIn.f k x p.1).bind fun t444 => (if t444 > 400 then (some 6) else (some 0))) else (some 5)) r → Ev (fun k => impl_CodeOf.f k (n : Int) a b t c x) r := by
    intro r hr
    exact im3 r (implSts_yes rt c c2 x hx hq hr x.length 0 (by omega) (by rw [List.drop_zero]; exact hst))
  rcases blk_all x (by omega) x.length 0 (by omega) with ⟨e, l, he, hn0, hk⟩ | ⟨k1, k2⟩
  · obtain ⟨k1, k2⟩ := hk
    obtain ⟨m', n', kk⟩ := k2 [] 0 0 (by simp; omega)
    have nd : Ev (fun k => impl_nodesOf.f k x) (l, ((e : Int) == (x.length : Int))) := by
      simp only [impl_nodesOf.f]
      refine Ev.bind (Ev.step (fun k => by rw [impl_nester_many.f]; rfl) kk) ?_
      simp only [if_true, List.nil_append]
      exact Ev.now _
    by_cases ce : e = x.length
    · subst ce
      obtain ⟨v, l1, l2, l3, l4⟩ := steps_all x x40 hN hn0 (Nat.le_refl _)
      have nv := bnd_num (by omega) l2
      have f1 := l3.f nv
      have f2 := l4.f (by omega)
      by_cases cv : v ≤ 400
      · refine ⟨0, sp3 0 _ k1 ?_, im4 0 ?_, fun _ => ⟨n, l, v, rfl, rt, h1, ei, er, es, hn0, ⟨k1, k2⟩, by omega, cv, l3, l4⟩⟩
        · simp only [if_true]
          refine Ev.bind f1 ?_
          simp only [if_neg (show ¬ (v : Int) > 400 by omega)]
          exact Ev.now _
        · refine Ev.bind nd ?_
          simp only [beq_self_eq_true, if_true]
          refine Ev.bind f2 ?_
          simp only [if_neg (show ¬ ((min v 4000 : Nat) : Int) > 400 by omega)]
          exact Ev.now _
      · refine ⟨6, sp3 6 _ k1 ?_, im4 6 ?_, fun h => by cases h⟩
        · simp only [if_true]
          refine Ev.bind f1 ?_
          simp only [if_pos (show (v : Int) > 400 by omega)]
          exact Ev.now _
        · refine Ev.bind nd ?_
          simp only [beq_self_eq_true, if_true]
          refine Ev.bind f2 ?_
          simp only [if_pos (show ((min v 4000 : Nat) : Int) > 400 by omega)]
          exact Ev.now _
    · refine ⟨5, sp3 5 _ k1 ?_, im4 5 ?_, fun h => by cases h⟩
      · simp only [if_neg (show ¬ (e : Int) = (x.length : Int) by omega)]
        exact Ev.now _
      · refine Ev.bind nd ?_
        simp only [beq_eq_false_iff_ne.2 (show (e : Int) ≠ (x.length : Int) by omega), Bool.false_eq_true, if_false]
        exact Ev.now _
  · obtain ⟨a', m', n', kk⟩ := k2 [] 0 0 (by simp; omega)
    have nd : Ev (fun k => impl_nodesOf.f k x) (([] : List S163), false) := by
      simp only [impl_nodesOf.f]
      refine Ev.bind (Ev.step (fun k => by rw [impl_nester_many.f]; rfl) kk) ?_
      simp only [Bool.false_eq_true, if_false]
      exact Ev.now _
    refine ⟨5, sp3 5 _ k1 ?_, im4 5 ?_, fun h => by cases h⟩
    · simp only [if_neg (show ¬ (-1 : Int) = (x.length : Int) by omega)]
      exact Ev.now _
    · refine Ev.bind nd ?_
      simp only [Bool.false_eq_true, if_false]
      exact Ev.now _
theorem progOk_all (w : Int) (a b : List S106) (ha : a.length ≤ 1048576) (hb : b.length ≤ 1048576) (t : Int) (c : List Int) (x : List S114) (hx : x.length ≤ 1048576) (hq : ∀ s ∈ x, s.f2.length ≤ 1048576 ∧ s.f3.length ≤ 1048576) :
    ∃ r : Bool, Ev (fun k => spec_ProgOk.f k w a b t c x) r ∧ Ev (fun k => impl_ProgOk.f k w a b t c x) r ∧ (r = true → ∃ (n : Nat) (l : List S163) (v : Nat), w = (n : Int) ∧ Right n a b t c x l v) := by
  obtain ⟨r, k1, k2, k3⟩ := codeOf_all w a b ha hb t c x hx hq
  refine ⟨r == 0, ?_, ?_, fun h => k3 (by simpa using h)⟩
  · simp only [spec_ProgOk.f]
    refine Ev.bind k1 ?_
    exact Ev.now _
  · simp only [impl_ProgOk.f]
    refine Ev.bind k2 ?_
    exact Ev.now _

theorem toInt64S_l (l : List Int) (hl : l.length ≤ 1048576) (d : Nat) : ∀ (i : Nat) (x : List Int), i + d = l.length → x.length = l.length → (∀ j, j < i → x[j]? = l[j]?) → Ev (fun k => laws_toInt64S.l0 k l x (i : Int)) l := by
  induction d with
  | zero =>
    intro i x hi hx ht
    refine Ev.step (fun k => by rw [laws_toInt64S.l0]) ?_
    simp only [if_neg (show ¬ (i : Int) < (l.length : Int) by omega)]
    obtain rfl : x = l := ext_at hx (fun j hj => ht j (by omega))
    exact Ev.now _
  | succ d ih =>
    intro i x hi hx ht
    refine Ev.step (fun k => by rw [laws_toInt64S.l0]) ?_
    simp only [if_pos (show (i : Int) < (l.length : Int) by omega), if_pos (show 0 ≤ (i : Int) by omega), if_pos (show (i : Int) < (x.length : Int) by omega), wrap_succ (show i < 9223372036854775807 by omega), Int.toNat_natCast]
    refine ih (i + 1) _ (by omega) (by simpa using hx) (fun j hj => ?_)
    rw [List.getElem?_set]
    by_cases e : i = j
    · subst e
      rw [if_pos rfl, if_pos (by omega), rd_lt l i (by omega), List.getElem?_eq_getElem (by omega)]
    · rw [if_neg e]; exact ht j (by omega)
theorem toInt64S_ev (l : List Int) (hl : l.length ≤ 1048576) : Ev (fun k => laws_toInt64S.f k l) l := by
  simp only [laws_toInt64S.f, if_pos (show 0 ≤ (l.length : Int) by omega), Int.toNat_natCast, if_pos (show l.length ≤ 35184372088832 by omega)]
  exact toInt64S_l l hl l.length 0 _ (by omega) (by simp) (fun j hj => by omega)


theorem eqInt64S_l (a b : List Int) (hl : a.length = b.length) (ha : a.length ≤ 9223372036854775807) (d : Nat) : ∀ (i : Nat), i + d = a.length → Ev (fun k => laws_eqInt64S.l0 k a b (i : Int)) (decide (a.drop i = b.drop i)) := by
  induction d with
  | zero =>
    intro i hi
    refine Ev.step (fun k => by rw [laws_eqInt64S.l0]) ?_
    simp only [if_neg (show ¬ (i : Int) < (a.length : Int) by omega)]
    rw [List.drop_of_length_le (show a.length ≤ i by omega), List.drop_of_length_le (show b.length ≤ i by omega)]
    simp only [decide_true]
    exact Ev.now _
  | succ d ih =>
    intro i hi
    refine Ev.step (fun k => by rw [laws_eqInt64S.l0]) ?_
    simp only [if_pos (show (i : Int) < (a.length : Int) by omega), if_pos (show 0 ≤ (i : Int) by omega), if_pos (show (i : Int) < (b.length : Int) by omega), wrap_succ (show i < 9223372036854775807 by omega)]
    rw [drop_rd a i (by omega), drop_rd b i (by omega)]
    by_cases e : rd a (i : Int) = rd b (i : Int)
    · simp only [if_pos e]
      exact (ih (i + 1) (by omega)).cast (by simp [e])
    · simp only [if_neg e]
      exact (Ev.now false).cast (by simp [e])
theorem eqInt64S_ev (a b : List Int) (ha : a.length ≤ 9223372036854775807) : Ev (fun k => laws_eqInt64S.f k a b) (decide (a = b)) := by
  simp only [laws_eqInt64S.f]
  by_cases hl : a.length = b.length
  · simp only [if_pos (show (a.length : Int) = (b.length : Int) by omega)]
    exact (eqInt64S_l a b hl ha a.length 0 (by omega)).cast (by simp)
  · simp only [if_neg (show ¬ (a.length : Int) = (b.length : Int) by omega)]
    exact (Ev.now false).cast (by have : a ≠ b := (fun e => hl (by rw [e])); simp [this])

theorem szInt64S_eq (l : List Int) (n : Int) (h0 : 0 ≤ n) (h1 : n ≤ 1048576) (hl : l.length ≤ 9223372036854775807) : laws_szInt64S.f l n = some (if n - (l.length : Int) < 0 then -1 else n - (l.length : Int)) := by
  have hw : wrap64 (n - (l.length : Int)) = n - (l.length : Int) := wrap_id (by omega) (by omega)
  simp only [laws_szInt64S.f, hw]
  split <;> rfl
/-- The Prog fits: all that is asked of its lists. -/
def okPg (a b : List S128) (c : List Int) (d : List S126) : Prop := a.length ≤ 1048576 ∧ b.length ≤ 1048576 ∧ c.length ≤ 1048576 ∧ d.length ≤ 1048576 ∧ ∀ s ∈ d, okSt s
theorem szProg_ex (w t : Int) (a b : List S128) (c : List Int) (d : List S126) (n : Int) (h0 : 0 ≤ n) (h1 : n ≤ 1048576) (ha : a.length ≤ 9223372036854775807) (hb : b.length ≤ 9223372036854775807) (hc : c.length ≤ 9223372036854775807) (hd : d.length ≤ 9223372036854775807) (hq : ∀ s ∈ d, s.f2.length ≤ 9223372036854775807 ∧ s.f3.length ≤ 9223372036854775807) :
    ∃ r, Ev (fun k => laws_szProg.f k w a b t c d n) r ∧ (r < 0 ∨ 0 ≤ r ∧ r ≤ n ∧ okPg a b c d) := by
  simp only [laws_szProg.f, szInputS_eq a n h0 h1 ha, Option.bind_some]
  by_cases c1 : n - (a.length : Int) < 0
  · simp only [if_pos c1, if_pos (show (-1 : Int) < 0 by decide)]
    exact ⟨_, Ev.now _, .inl (by decide)⟩
  simp only [if_neg c1, szInputS_eq b (n - (a.length : Int)) (by omega) (by omega) hb, Option.bind_some]
  by_cases c2 : n - (a.length : Int) - (b.length : Int) < 0
  · simp only [if_pos c2, if_pos (show (-1 : Int) < 0 by decide)]
    exact ⟨_, Ev.now _, .inl (by decide)⟩
  simp only [if_neg c2, szInt64S_eq c (n - (a.length : Int) - (b.length : Int)) (by omega) (by omega) hc, Option.bind_some]
  by_cases c3 : n - (a.length : Int) - (b.length : Int) - (c.length : Int) < 0
  · simp only [if_pos c3, if_pos (show (-1 : Int) < 0 by decide)]
    exact ⟨_, Ev.now _, .inl (by decide)⟩
  simp only [if_neg c3]
  obtain ⟨r, er, hr⟩ := szStmtS_ex d (n - (a.length : Int) - (b.length : Int) - (c.length : Int)) (by omega) (by omega) hd hq
  by_cases c4 : r < 0
  · refine ⟨-1, Ev.bind er ?_, .inl (by decide)⟩
    simp only [if_pos c4]
    exact Ev.now _
  · refine ⟨r, Ev.bind er ?_, ?_⟩
    · simp only [if_neg c4]
      exact Ev.now _
    · rcases hr with h | ⟨h2, h3, h4, h5⟩
      · exact absurd h c4
      · exact .inr ⟨h2, by omega, by omega, by omega, by omega, h4, h5⟩
theorem toProg_ev (w t : Int) (a b : List S128) (c : List Int) (d : List S126) (h : okPg a b c d) : Ev (fun k => laws_toProg.f k w a b t c d) (w, a.map inL, b.map inL, t, c, d.map stL) := by
  obtain ⟨h1, h2, h3, h4, h5⟩ := h
  simp only [laws_toProg.f]
  refine Ev.bind (toInputS_ev a h1) ?_
  refine Ev.bind (toInputS_ev b h2) ?_
  refine Ev.bind (toInt64S_ev c h3) ?_
  refine Ev.bind (toStmtS_ev d h4 h5) ?_
  exact Ev.now _
theorem eqProg_same (w t : Int) (a b : List S128) (c : List Int) (d : List S126) (h : okPg a b c d) : Ev (fun k => laws_eqProg.f k w (a.map inL) (b.map inL) t c (d.map stL) w (a.map inL) (b.map inL) t c (d.map stL)) true := by
  obtain ⟨h1, h2, h3, h4, h5⟩ := h
  simp only [laws_eqProg.f, if_true]
  refine Ev.bind (eqInputS_same _ (by simp; omega)) ?_
  simp only [if_true]
  refine Ev.bind (eqInputS_same _ (by simp; omega)) ?_
  simp only [if_true]
  refine Ev.bind ((eqInt64S_ev c c (by omega)).cast (decide_eq_true rfl)) ?_
  simp only [if_true]
  refine Ev.bind (eqStmtS_same _ (by simpa using h4) (stL_ok h5)) ?_
  simp only [if_true]
  exact Ev.now _

end Go.Proofs.Ytakmkdlkipfnhaa.Pure
