/- Part of the pure side: Nest. -/
import Derived.Test.YtbjmhdoagjmmcaaPCoreg
import Derived.Test.YtbjmhdoagjmmcaaPCoreg0
import Derived.Test.YtbjmhdoagjmmcaaPCoreg1
import Derived.Test.YtbjmhdoagjmmcaaTerm
import Derived.Test.YtbjmhdoagjmmcaaFL1In
set_option linter.unusedVariables false
set_option linter.unusedSimpArgs false
namespace Go.Proofs.Ytbjmhdoagjmmcaa.Pure
open Go.RowKit Go.Proofs.Ytbjmhdoagjmmcaa.PCore Go.Proofs.YtbjmhdoagjmmcaaW.PrintWords Go.Proofs.YtbjmhdoagjmmcaaW.PrintLast Go.Proofs.YtbjmhdoagjmmcaaW.PrintMore Go.Proofs.Ytbjmhdoagjmmcaa.Bs

/-- The Op of a place. -/
def opx (x : List S42) (a : Nat) : Int := (rd_T42 x (a : Int)).f0
/-- There is this Op at the place. -/
def isB (x : List S42) (a : Nat) (c : Int) : Bool := decide (a < x.length) && (opx x a == c)
theorem isB_lt {x : List S42} {a : Nat} {c : Int} (h : isB x a c = true) : a < x.length ∧ opx x a = c := by
  simp only [isB, Bool.and_eq_true, decide_eq_true_eq, beq_iff_eq] at h; exact h
theorem implIs_eq (x : List S42) (a : Nat) (m n c : Int) : impl_nester_is.f x (a : Int) m n c = some (isB x a c) := by
  unfold impl_nester_is.f isB opx
  by_cases h : a < x.length
  · rw [if_pos (by omega), if_pos (by omega), decide_eq_true h, Bool.true_and]
  · rw [if_neg (by omega), decide_eq_false h, Bool.false_and]
theorem specIs_eq (x : List S42) (hx : x.length ≤ 1000) (a : Nat) (c : Int) : spec_l3Is.f x (a : Int) c = some (isB x a c) := by
  unfold spec_l3Is.f isB opx
  rw [wrap_id (show -9223372036854775808 ≤ (x.length : Int) - 1 by omega) (by omega), l1In_eq, Option.bind_some]
  by_cases h : a < x.length
  · rw [if_pos (by simp; omega), if_pos (by omega), if_pos (by omega), decide_eq_true h, Bool.true_and]
  · rw [if_neg (by simp; omega), decide_eq_false h, Bool.false_and]
theorem specIs_neg (x : List S42) (hx : x.length ≤ 1000) (c : Int) : spec_l3Is.f x (-1) c = some false := by
  unfold spec_l3Is.f
  rw [wrap_id (show -9223372036854775808 ≤ (x.length : Int) - 1 by omega) (by omega), l1In_eq, Option.bind_some, if_neg (by simp)]
/-- Where a block stops: behind all, or at an else, an end, a catch. -/
def stops (x : List S42) (a : Nat) : Prop := x.length ≤ a ∨ opx x a = 3 ∨ opx x a = 4 ∨ opx x a = 9
/-- From a place to where the block stops: its nodes. -/
inductive Nst (x : List S42) : Nat → Nat → List S71 → Prop where
  | nil {a : Nat} (h : stops x a) : Nst x a a []
  | leaf {a e : Nat} {l : List S71} (h : a < x.length) (ho : opx x a ≠ 2 ∧ opx x a ≠ 3 ∧ opx x a ≠ 4 ∧ opx x a ≠ 5 ∧ opx x a ≠ 8 ∧ opx x a ≠ 9) (hr : Nst x (a + 1) e l) : Nst x a e (⟨(a : Int), [], []⟩ :: l)
  | one {a c e : Nat} {b l : List S71} (h : a < x.length) (ho : opx x a = 2 ∨ opx x a = 5) (hb : Nst x (a + 1) c b) (hc : isB x c 4 = true) (hr : Nst x (c + 1) e l) : Nst x a e (⟨(a : Int), b, []⟩ :: l)
  | two {a c d e : Nat} {b o l : List S71} (h : a < x.length) (ho : opx x a = 2 ∧ isB x c 3 = true ∨ opx x a = 8 ∧ isB x c 9 = true) (hb : Nst x (a + 1) c b) (hm : Nst x (c + 1) d o) (hd : isB x d 4 = true) (hr : Nst x (d + 1) e l) : Nst x a e (⟨(a : Int), b, o⟩ :: l)
theorem Nst.le {x : List S42} {a e : Nat} {l : List S71} (h : Nst x a e l) : a ≤ e := by
  induction h with
  | nil => exact Nat.le_refl _
  | leaf _ _ _ ih => omega
  | one _ _ _ _ _ ih1 ih2 => omega
  | two _ _ _ _ _ _ ih1 ih2 ih3 => omega
theorem Nst.stop {x : List S42} {a e : Nat} {l : List S71} (h : Nst x a e l) : stops x e := by
  induction h with
  | nil h => exact h
  | leaf _ _ _ ih => exact ih
  | one _ _ _ _ _ _ ih2 => exact ih2
  | two _ _ _ _ _ _ _ _ ih3 => exact ih3
/-- What stands at a place of an if, a loop, a try: where its middle is (or -1), where its end, its parts. -/
def Nd (x : List S42) (a : Nat) (mid : Int) (e : Nat) (b o : List S71) : Prop :=
  isB x e 4 = true ∧ (((opx x a = 2 ∨ opx x a = 5) ∧ mid = -1 ∧ o = [] ∧ Nst x (a + 1) e b) ∨
    ∃ c : Nat, mid = (c : Int) ∧ (opx x a = 2 ∧ isB x c 3 = true ∨ opx x a = 8 ∧ isB x c 9 = true) ∧ Nst x (a + 1) c b ∧ Nst x (c + 1) e o)
def BlkOk (x : List S42) (a e : Nat) (l : List S71) : Prop :=
  Ev (fun k => spec_l3Block.l0 k x (a : Int)) (e : Int) ∧ ∀ (pre : List S71) (m n : Int), pre.length + (x.length - a) ≤ 2000 → ∃ m' n', Ev (fun k => impl_nester_many.l0 k pre x (a : Int) m n) (pre ++ l, true, (e : Int), m', n')
def BlkNo (x : List S42) (a : Nat) : Prop :=
  Ev (fun k => spec_l3Block.l0 k x (a : Int)) (-1) ∧ ∀ (pre : List S71) (m n : Int), pre.length + (x.length - a) ≤ 2000 → ∃ a' m' n', Ev (fun k => impl_nester_many.l0 k pre x (a : Int) m n) ([], false, a', m', n')
def Blk (x : List S42) (a : Nat) : Prop := (∃ e l, e ≤ x.length ∧ Nst x a e l ∧ BlkOk x a e l) ∨ BlkNo x a
def EnOk (x : List S42) (a : Nat) (mid : Int) (e : Nat) (b o : List S71) : Prop :=
  Ev (fun k => spec_l3End.f k x (a : Int)) (mid, (e : Int)) ∧ ∀ m n : Int, Ev (fun k => impl_nester_one.f k x (a : Int) m n) ((a : Int), b, o, true, ((e + 1 : Nat) : Int), mid, (e : Int))
def EnNo (x : List S42) (a : Nat) : Prop :=
  Ev (fun k => spec_l3End.f k x (a : Int)) (-1, -1) ∧ ∀ m n : Int, ∃ a' m' n', Ev (fun k => impl_nester_one.f k x (a : Int) m n) (0, [], [], false, a', m', n')
def En (x : List S42) (a : Nat) : Prop := (∃ mid e b o, a < e ∧ e < x.length ∧ Nd x a mid e b o ∧ EnOk x a mid e b o) ∨ EnNo x a
/-! The steps of the reference. -/
theorem l3B_end (x : List S42) (a : Nat) (h : x.length ≤ a) : Ev (fun k => spec_l3Block.l0 k x (a : Int)) (a : Int) := by
  refine Ev.step (fun k => by rw [spec_l3Block.l0]) ?_
  simp only [if_neg (show ¬ (a : Int) < (x.length : Int) by omega)]
  exact Ev.now _
theorem l3B_stop (x : List S42) (a : Nat) (h : a < x.length) (ho : opx x a = 3 ∨ opx x a = 4 ∨ opx x a = 9) : Ev (fun k => spec_l3Block.l0 k x (a : Int)) (a : Int) := by
  unfold opx at ho
  refine Ev.step (fun k => by rw [spec_l3Block.l0]) ?_
  simp only [if_pos (show (a : Int) < (x.length : Int) by omega), if_pos (show 0 ≤ (a : Int) by omega)]
  rcases ho with ho | ho | ho
  · simp only [ho, if_true, beq_self_eq_true]
    refine Ev.step (fun k => by rw [spec_l3Block.j1]) ?_
    simp only [if_true]; exact Ev.now _
  · simp only [ho, if_neg (show ¬ (4 : Int) = 3 by decide), if_neg (show ¬ (4 : Int) = 9 by decide), beq_self_eq_true]
    refine Ev.step (fun k => by rw [spec_l3Block.j1]) ?_
    simp only [if_true]; exact Ev.now _
  · simp only [ho, if_neg (show ¬ (9 : Int) = 3 by decide), if_true, beq_self_eq_true]
    refine Ev.step (fun k => by rw [spec_l3Block.j1]) ?_
    simp only [if_true]; exact Ev.now _
theorem l3B_go (x : List S42) (a : Nat) (h : a < x.length) (h3 : opx x a ≠ 3) (h4 : opx x a ≠ 4) (h9 : opx x a ≠ 9) (b : Bool) (hb : b = true ↔ (opx x a = 2 ∨ opx x a = 5 ∨ opx x a = 8)) {r : Int} (k : Ev (fun k => spec_l3Block.j2 k x (a : Int) b) r) : Ev (fun k => spec_l3Block.l0 k x (a : Int)) r := by
  unfold opx at h3 h4 h9 hb
  refine Ev.step (fun k => by rw [spec_l3Block.l0]) ?_
  simp only [if_pos (show (a : Int) < (x.length : Int) by omega), if_pos (show 0 ≤ (a : Int) by omega), if_neg h3, if_neg h9, beq_eq_false_iff_ne.2 h4]
  refine Ev.step (fun k => by rw [spec_l3Block.j1]) ?_
  simp only [Bool.false_eq_true, if_false]
  generalize (rd_T42 x (a : Int)).f0 = op at hb
  by_cases c2 : op = 2
  · subst c2
    obtain rfl : b = true := hb.2 (by simp)
    simp only [if_true, beq_self_eq_true]; exact k
  by_cases c5 : op = 5
  · subst c5
    obtain rfl : b = true := hb.2 (by simp)
    simp only [if_neg c2, if_true, beq_self_eq_true]; exact k
  simp only [if_neg c2, if_neg c5]
  by_cases c8 : op = 8
  · subst c8
    obtain rfl : b = true := hb.2 (by simp)
    simp only [beq_self_eq_true]; exact k
  · have : b = false := by
      rw [← Bool.not_eq_true]; intro hh
      have := hb.1 hh
      omega
    subst this
    simp only [beq_eq_false_iff_ne.2 c8]; exact k
theorem l3B_leaf (x : List S42) (hx : x.length ≤ 1000) (a : Nat) (h : a < x.length) (ho : opx x a ≠ 2 ∧ opx x a ≠ 3 ∧ opx x a ≠ 4 ∧ opx x a ≠ 5 ∧ opx x a ≠ 8 ∧ opx x a ≠ 9) {r : Int} (k : Ev (fun k => spec_l3Block.l0 k x ((a + 1 : Nat) : Int)) r) : Ev (fun k => spec_l3Block.l0 k x (a : Int)) r := by
  refine l3B_go x a h ho.2.1 ho.2.2.1 ho.2.2.2.2.2 false (by simp [ho.1, ho.2.2.2.1, ho.2.2.2.2.1]) ?_
  refine Ev.step (fun k => by rw [spec_l3Block.j2]) ?_
  simp only [Bool.false_eq_true, if_false, wrap_succ (show a < 9223372036854775807 by omega)]
  exact k
theorem l3B_nest (x : List S42) (hx : x.length ≤ 1000) (a : Nat) (h : a < x.length) (ho : opx x a = 2 ∨ opx x a = 5 ∨ opx x a = 8) {mid : Int} {e : Nat} {r : Int} (he : e ≤ x.length) (k1 : Ev (fun k => spec_l3End.f k x (a : Int)) (mid, (e : Int))) (k : Ev (fun k => spec_l3Block.l0 k x ((e + 1 : Nat) : Int)) r) : Ev (fun k => spec_l3Block.l0 k x (a : Int)) r := by
  refine l3B_go x a h (by omega) (by omega) (by omega) true (by simp [ho]) ?_
  refine Ev.step (fun k => by rw [spec_l3Block.j2]) ?_
  simp only [if_true]
  refine Ev.bind k1 ?_
  simp only [if_neg (show ¬ (e : Int) < 0 by omega), wrap_succ (show e < 9223372036854775807 by omega)]
  exact k
theorem l3B_fail (x : List S42) (a : Nat) (h : a < x.length) (ho : opx x a = 2 ∨ opx x a = 5 ∨ opx x a = 8) (k1 : Ev (fun k => spec_l3End.f k x (a : Int)) (-1, -1)) : Ev (fun k => spec_l3Block.l0 k x (a : Int)) (-1) := by
  refine l3B_go x a h (by omega) (by omega) (by omega) true (by simp [ho]) ?_
  refine Ev.step (fun k => by rw [spec_l3Block.j2]) ?_
  simp only [if_true]
  refine Ev.bind k1 ?_
  simp only [if_pos (show (-1 : Int) < 0 by decide)]
  exact Ev.now _
theorem l3E_step (x : List S42) (a : Nat) (h : a < x.length) (hx : x.length ≤ 1000) {t : Int} (k1 : Ev (fun k => spec_l3Block.l0 k x ((a + 1 : Nat) : Int)) t) : Ev (fun k => spec_l3Block.f k x (wrap64 ((a : Int) + 1))) t := by
  rw [wrap_succ (show a < 9223372036854775807 by omega)]
  exact Ev.step (fun k => by rw [spec_l3Block.f]) k1
/-! The steps of the program. -/
theorem many_stop (x : List S42) (a : Nat) (h : stops x a) (pre : List S71) (m n : Int) : Ev (fun k => impl_nester_many.l0 k pre x (a : Int) m n) (pre, true, (a : Int), m, n) := by
  refine Ev.step (fun k => by rw [impl_nester_many.l0]) ?_
  by_cases c : (a : Int) < (x.length : Int)
  · have hs : isB x a 3 = true ∨ isB x a 4 = true ∨ isB x a 9 = true := by
      have hl : a < x.length := by omega
      simp only [isB, decide_eq_true hl, Bool.true_and, beq_iff_eq]
      rcases h with h | h
      · omega
      · exact h
    simp only [if_pos c, implIs_eq, Option.bind_some]
    by_cases c3 : isB x a 3 = true
    · simp only [if_pos c3]
      refine Ev.step (fun k => by rw [impl_nester_many.j1]) ?_
      simp only [Bool.false_eq_true, if_false]; exact Ev.now _
    by_cases c4 : isB x a 4 = true
    · simp only [if_neg c3, if_pos c4]
      refine Ev.step (fun k => by rw [impl_nester_many.j1]) ?_
      simp only [Bool.false_eq_true, if_false]; exact Ev.now _
    have c9 : isB x a 9 = true := by
      rcases hs with h | h | h
      · exact absurd h c3
      · exact absurd h c4
      · exact h
    simp only [if_neg c3, if_neg c4, c9, Bool.not_true]
    refine Ev.step (fun k => by rw [impl_nester_many.j1]) ?_
    simp only [Bool.false_eq_true, if_false]; exact Ev.now _
  · simp only [if_neg c]
    refine Ev.step (fun k => by rw [impl_nester_many.j1]) ?_
    simp only [Bool.false_eq_true, if_false]; exact Ev.now _
theorem many_go (x : List S42) (a : Nat) (h : a < x.length) (h3 : opx x a ≠ 3) (h4 : opx x a ≠ 4) (h9 : opx x a ≠ 9) (pre : List S71) (m n : Int) {r : List S71 × Bool × Int × Int × Int} (k : Ev (fun k => impl_nester_many.j1 k pre true x (a : Int) m n) r) : Ev (fun k => impl_nester_many.l0 k pre x (a : Int) m n) r := by
  have e3 : isB x a 3 = false := by simp only [isB, beq_eq_false_iff_ne.2 h3, Bool.and_false]
  have e4 : isB x a 4 = false := by simp only [isB, beq_eq_false_iff_ne.2 h4, Bool.and_false]
  have e9 : isB x a 9 = false := by simp only [isB, beq_eq_false_iff_ne.2 h9, Bool.and_false]
  refine Ev.step (fun k => by rw [impl_nester_many.l0]) ?_
  simp only [if_pos (show (a : Int) < (x.length : Int) by omega), implIs_eq, Option.bind_some, e3, e4, e9, Bool.false_eq_true, if_false, Bool.not_false]
  exact k
theorem one_leaf (x : List S42) (hx : x.length ≤ 1000) (a : Nat) (h : a < x.length) (ho : opx x a ≠ 2 ∧ opx x a ≠ 5 ∧ opx x a ≠ 8) (m n : Int) : Ev (fun k => impl_nester_one.f k x (a : Int) m n) ((a : Int), [], [], true, ((a + 1 : Nat) : Int), m, n) := by
  unfold opx at ho
  refine Ev.step (fun k => by rw [impl_nester_one.f]) ?_
  simp only [if_pos (show (a : Int) < (x.length : Int) by omega), if_pos (show 0 ≤ (a : Int) by omega), if_neg ho.1, if_neg ho.2.1, bne_iff_ne.2 ho.2.2, wrap_succ (show a < 9223372036854775807 by omega)]
  refine Ev.step (fun k => by rw [impl_nester_one.j0]) ?_
  simp only [if_true]
  exact Ev.now _
theorem one_nest (x : List S42) (hx : x.length ≤ 1000) (a : Nat) (h : a < x.length) (ho : opx x a = 2 ∨ opx x a = 5 ∨ opx x a = 8) (m n : Int) {r : Int × List S71 × List S71 × Bool × Int × Int × Int} (k : Ev (fun k => impl_nester_one.j0 k (opx x a) false x ((a + 1 : Nat) : Int) m n (a : Int)) r) : Ev (fun k => impl_nester_one.f k x (a : Int) m n) r := by
  unfold opx at ho k
  refine Ev.step (fun k => by rw [impl_nester_one.f]) ?_
  simp only [if_pos (show (a : Int) < (x.length : Int) by omega), if_pos (show 0 ≤ (a : Int) by omega), wrap_succ (show a < 9223372036854775807 by omega)]
  generalize (rd_T42 x (a : Int)).f0 = op at ho k
  rcases ho with rfl | rfl | rfl
  · simp only [if_true]; exact k
  · simp only [if_neg (show ¬ (5 : Int) = 2 by decide), if_true]; exact k
  · simp only [if_neg (show ¬ (8 : Int) = 2 by decide), if_neg (show ¬ (8 : Int) = 5 by decide), bne_self_eq_false]; exact k
/-- The end of a node with a body: from where its last part stops. -/
theorem one_fail (op : Int) (x : List S42) (mid at_ m n a : Int) (b o : List S71) : Ev (fun k => impl_nester_one.j2 k op false mid x at_ m n a b o) (0, [], [], false, at_, m, n) := by
  refine Ev.step (fun k => by rw [impl_nester_one.j2]) ?_
  simp only [Bool.false_eq_true, if_false]
  refine Ev.step (fun k => by rw [impl_nester_one.j3]) ?_
  simp only [if_true]
  exact Ev.now _
theorem one_noend (op : Int) (x : List S42) (mid : Int) (c : Nat) (m n a : Int) (b o : List S71) (h : isB x c 4 = false ∨ op = 8 ∧ mid < 0) : Ev (fun k => impl_nester_one.j2 k op true mid x (c : Int) m n a b o) (0, [], [], false, (c : Int), m, n) := by
  refine Ev.step (fun k => by rw [impl_nester_one.j2]) ?_
  simp only [if_true, implIs_eq, Option.bind_some]
  by_cases c4 : isB x c 4 = true
  · have h8 : op = 8 ∧ mid < 0 := by
      rcases h with h | h
      · rw [h] at c4; cases c4
      · exact h
    simp only [if_pos c4, if_pos h8.1, decide_eq_true h8.2]
    refine Ev.step (fun k => by rw [impl_nester_one.j3]) ?_
    simp only [if_true]
    exact Ev.now _
  · simp only [if_neg c4]
    refine Ev.step (fun k => by rw [impl_nester_one.j3]) ?_
    simp only [if_true]
    exact Ev.now _
theorem one_end (op : Int) (x : List S42) (hx : x.length ≤ 1000) (mid : Int) (c : Nat) (m n a : Int) (b o : List S71) (h : isB x c 4 = true) (h8 : op = 8 → ¬ mid < 0) : Ev (fun k => impl_nester_one.j2 k op true mid x (c : Int) m n a b o) (a, b, o, true, ((c + 1 : Nat) : Int), mid, (c : Int)) := by
  have hc := (isB_lt h).1
  refine Ev.step (fun k => by rw [impl_nester_one.j2]) ?_
  simp only [if_true, implIs_eq, Option.bind_some, if_pos h]
  by_cases c8 : op = 8
  · simp only [if_pos c8, decide_eq_false (h8 c8)]
    refine Ev.step (fun k => by rw [impl_nester_one.j3]) ?_
    simp only [Bool.false_eq_true, if_false, wrap_succ (show c < 9223372036854775807 by omega)]
    exact Ev.now _
  · simp only [if_neg c8]
    refine Ev.step (fun k => by rw [impl_nester_one.j3]) ?_
    simp only [Bool.false_eq_true, if_false, wrap_succ (show c < 9223372036854775807 by omega)]
    exact Ev.now _
/-- With a middle, or without. -/
theorem one_body (x : List S42) (a : Nat) (op : Int) (c : Nat) (m n m' n' : Int) (b : List S71) (at1 : Int) (k1 : Ev (fun k => impl_nester_many.f k x at1 m n) (b, true, (c : Int), m', n')) {r : Int × List S71 × List S71 × Bool × Int × Int × Int}
    (k : Ev (fun k => impl_nester_one.j1 k op true (-1) (decide (op = 2) && isB x c 3 || decide (op = 8) && isB x c 9) x (c : Int) m' n' (a : Int) b) r) : Ev (fun k => impl_nester_one.j0 k op false x at1 m n (a : Int)) r := by
  refine Ev.step (fun k => by rw [impl_nester_one.j0]) ?_
  simp only [Bool.false_eq_true, if_false]
  refine Ev.bind k1 ?_
  simp only [if_true, implIs_eq, Option.bind_some]
  by_cases c2 : op = 2
  · subst c2
    simp only [decide_true, Bool.true_and, if_true] at k ⊢
    by_cases c3 : isB x c 3 = true
    · simp only [c3, Bool.true_or, if_true] at k ⊢; exact k
    · rw [Bool.not_eq_true] at c3
      simp only [c3, Bool.false_or, Bool.false_eq_true, if_false, show decide ((2 : Int) = 8) = false by decide, Bool.false_and, if_neg (show ¬ (2 : Int) = 8 by decide)] at k ⊢; exact k
  · simp only [decide_eq_false c2, Bool.false_and, Bool.false_or, if_neg c2] at k ⊢
    by_cases c8 : op = 8
    · simp only [decide_eq_true c8, Bool.true_and, if_pos c8] at k ⊢; exact k
    · simp only [decide_eq_false c8, Bool.false_and, if_neg c8] at k ⊢; exact k
theorem one_nobody (x : List S42) (a : Nat) (op : Int) (m n c m' n' : Int) (b : List S71) (at1 : Int) (k1 : Ev (fun k => impl_nester_many.f k x at1 m n) (b, false, c, m', n')) : Ev (fun k => impl_nester_one.j0 k op false x at1 m n (a : Int)) (0, [], [], false, c, m', n') := by
  refine Ev.step (fun k => by rw [impl_nester_one.j0]) ?_
  simp only [Bool.false_eq_true, if_false]
  refine Ev.bind k1 ?_
  simp only [Bool.false_eq_true, if_false]
  refine Ev.step (fun k => by rw [impl_nester_one.j1]) ?_
  simp only [Bool.false_eq_true, if_false]
  exact one_fail _ _ _ _ _ _ _ _ _
/-- An if, a loop, a try: out of what is told of all blocks behind it. -/
theorem en_of (x : List S42) (hx : x.length ≤ 1000) (a : Nat) (h : a < x.length) (ho : opx x a = 2 ∨ opx x a = 5 ∨ opx x a = 8) (ih : ∀ a', a < a' → a' ≤ x.length → Blk x a') : En x a := by
  have hs : ∀ t : Int, Ev (fun k => spec_l3Block.l0 k x ((a + 1 : Nat) : Int)) t → Ev (fun k => spec_l3Block.f k x (wrap64 ((a : Int) + 1))) t := fun t k => l3E_step x a h hx k
  have hop : (rd_T42 x (a : Int)).f0 = opx x a := rfl
  have p0 : 0 ≤ (a : Int) := by omega
  have p1 : (a : Int) < (x.length : Int) := by omega
  rcases ih (a + 1) (by omega) (by omega) with ⟨c, b, hc, hn, k1, k2⟩ | ⟨k1, k2⟩
  · have hac := hn.le
    have kf : ∀ m n : Int, ∃ m' n', Ev (fun k => impl_nester_many.f k x ((a + 1 : Nat) : Int) m n) (b, true, (c : Int), m', n') := by
      intro m n
      obtain ⟨m', n', kk⟩ := k2 [] m n (by simp; omega)
      exact ⟨m', n', Ev.step (fun k => by rw [impl_nester_many.f]) kk⟩
    by_cases hm : (decide (opx x a = 2) && isB x c 3 || decide (opx x a = 8) && isB x c 9) = true
    · -- a middle
      have hm' : opx x a = 2 ∧ isB x c 3 = true ∨ opx x a = 8 ∧ isB x c 9 = true := by simpa using hm
      have hcl : c < x.length := by
        rcases hm' with hh | hh
        · exact (isB_lt hh.2).1
        · exact (isB_lt hh.2).1
      have h4 : isB x c 4 = false := by
        rw [← Bool.not_eq_true]; intro hh
        have e1 := (isB_lt hh).2
        rcases hm' with hh2 | hh2
        · have := (isB_lt hh2.2).2; omega
        · have := (isB_lt hh2.2).2; omega
      rcases ih (c + 1) (by omega) (by omega) with ⟨d, o, hd, hno, j1, j2⟩ | ⟨j1, j2⟩
      · have hcd := hno.le
        have kg : ∀ m n : Int, ∃ m' n', Ev (fun k => impl_nester_many.f k x (wrap64 ((c : Int) + 1)) m n) (o, true, (d : Int), m', n') := by
          intro m n
          obtain ⟨m', n', kk⟩ := j2 [] m n (by simp; omega)
          rw [wrap_succ (show c < 9223372036854775807 by omega)]
          exact ⟨m', n', Ev.step (fun k => by rw [impl_nester_many.f]) kk⟩
        have js : Ev (fun k => spec_l3Block.f k x (wrap64 ((c : Int) + 1))) (d : Int) := l3E_step x c hcl hx j1
        by_cases h5 : isB x d 4 = true
        · have hdl := (isB_lt h5).1
          refine .inl ⟨(c : Int), d, b, o, by omega, hdl, ⟨h5, .inr ⟨c, rfl, hm', hn, hno⟩⟩, ?_, fun m n => ?_⟩
          · refine Ev.step (fun k => by rw [spec_l3End.f]) ?_
            refine Ev.bind (hs _ k1) ?_
            simp only [if_pos p0, if_pos p1, hop, specIs_eq x hx, Option.bind_some, h4, Bool.false_eq_true, if_false]
            rcases hm' with ⟨e2, e3⟩ | ⟨e2, e3⟩
            · simp only [e2, if_neg (show ¬ (2 : Int) = 5 by decide), if_true, e3]
              refine Ev.bind js ?_
              simp only [specIs_eq x hx, Option.bind_some, h5, if_true]
              exact Ev.now _
            · simp only [e2, if_neg (show ¬ (8 : Int) = 5 by decide), if_neg (show ¬ (8 : Int) = 2 by decide), if_true, e3]
              refine Ev.bind js ?_
              simp only [specIs_eq x hx, Option.bind_some, h5, if_true]
              exact Ev.now _
          · obtain ⟨m1, n1, q1⟩ := kf m n
            obtain ⟨m2, n2, q2⟩ := kg m1 n1
            refine one_nest x hx a h ho m n (one_body x a (opx x a) c m n m1 n1 b _ q1 ?_)
            rw [hm]
            refine Ev.step (fun k => by rw [impl_nester_one.j1]) ?_
            simp only [if_true]
            refine Ev.bind q2 ?_
            exact one_end _ x hx _ d m2 n2 _ b o h5 (fun _ => by omega)
        · rw [Bool.not_eq_true] at h5
          refine .inr ⟨?_, fun m n => ?_⟩
          · refine Ev.step (fun k => by rw [spec_l3End.f]) ?_
            refine Ev.bind (hs _ k1) ?_
            simp only [if_pos p0, if_pos p1, hop, specIs_eq x hx, Option.bind_some, h4, Bool.false_eq_true, if_false]
            rcases hm' with ⟨e2, e3⟩ | ⟨e2, e3⟩
            · simp only [e2, if_neg (show ¬ (2 : Int) = 5 by decide), if_true, e3]
              refine Ev.bind js ?_
              simp only [specIs_eq x hx, Option.bind_some, h5, Bool.false_eq_true, if_false]
              exact Ev.now _
            · simp only [e2, if_neg (show ¬ (8 : Int) = 5 by decide), if_neg (show ¬ (8 : Int) = 2 by decide), if_true, e3]
              refine Ev.bind js ?_
              simp only [specIs_eq x hx, Option.bind_some, h5, Bool.false_eq_true, if_false]
              exact Ev.now _
          · obtain ⟨m1, n1, q1⟩ := kf m n
            obtain ⟨m2, n2, q2⟩ := kg m1 n1
            refine ⟨(d : Int), m2, n2, one_nest x hx a h ho m n (one_body x a (opx x a) c m n m1 n1 b _ q1 ?_)⟩
            rw [hm]
            refine Ev.step (fun k => by rw [impl_nester_one.j1]) ?_
            simp only [if_true]
            refine Ev.bind q2 ?_
            exact one_noend _ x _ d m2 n2 _ b o (.inl h5)
      · -- what is behind the middle is not well nested
        refine .inr ⟨?_, fun m n => ?_⟩
        · have js : Ev (fun k => spec_l3Block.f k x (wrap64 ((c : Int) + 1))) (-1) := l3E_step x c hcl hx j1
          refine Ev.step (fun k => by rw [spec_l3End.f]) ?_
          refine Ev.bind (hs _ k1) ?_
          simp only [if_pos p0, if_pos p1, hop, specIs_eq x hx, Option.bind_some, h4, Bool.false_eq_true, if_false]
          rcases hm' with ⟨e2, e3⟩ | ⟨e2, e3⟩
          · simp only [e2, if_neg (show ¬ (2 : Int) = 5 by decide), if_true, e3]
            refine Ev.bind js ?_
            simp only [specIs_neg x hx, Option.bind_some, Bool.false_eq_true, if_false]
            exact Ev.now _
          · simp only [e2, if_neg (show ¬ (8 : Int) = 5 by decide), if_neg (show ¬ (8 : Int) = 2 by decide), if_true, e3]
            refine Ev.bind js ?_
            simp only [specIs_neg x hx, Option.bind_some, Bool.false_eq_true, if_false]
            exact Ev.now _
        · obtain ⟨m1, n1, q1⟩ := kf m n
          obtain ⟨a2, m2, n2, q2⟩ := j2 [] m1 n1 (by simp; omega)
          have q2' : Ev (fun k => impl_nester_many.f k x (wrap64 ((c : Int) + 1)) m1 n1) ([], false, a2, m2, n2) := by
            rw [wrap_succ (show c < 9223372036854775807 by omega)]
            exact Ev.step (fun k => by rw [impl_nester_many.f]) q2
          refine ⟨a2, m2, n2, one_nest x hx a h ho m n (one_body x a (opx x a) c m n m1 n1 b _ q1 ?_)⟩
          rw [hm]
          refine Ev.step (fun k => by rw [impl_nester_one.j1]) ?_
          simp only [if_true]
          refine Ev.bind q2' ?_
          exact one_fail _ _ _ _ _ _ _ _ _
    · -- no middle
      rw [Bool.not_eq_true] at hm
      have hm2 : opx x a = 2 → isB x c 3 = false := by
        intro e2
        rw [e2] at hm
        simpa using hm
      have hm8 : opx x a = 8 → isB x c 9 = false := by
        intro e8
        rw [e8] at hm
        simpa using hm
      by_cases h5 : isB x c 4 = true ∧ opx x a ≠ 8
      · have hcl := (isB_lt h5.1).1
        have ho' : opx x a = 2 ∨ opx x a = 5 := by omega
        refine .inl ⟨-1, c, b, [], by omega, hcl, ⟨h5.1, .inl ⟨ho', rfl, rfl, hn⟩⟩, ?_, fun m n => ?_⟩
        · refine Ev.step (fun k => by rw [spec_l3End.f]) ?_
          refine Ev.bind (hs _ k1) ?_
          simp only [if_pos p0, if_pos p1, hop, specIs_eq x hx, Option.bind_some, h5.1, if_true]
          rcases ho' with e2 | e2
          · simp only [e2, if_neg (show ¬ (2 : Int) = 5 by decide), if_true]; exact Ev.now _
          · simp only [e2, if_true]; exact Ev.now _
        · obtain ⟨m1, n1, q1⟩ := kf m n
          refine one_nest x hx a h ho m n (one_body x a (opx x a) c m n m1 n1 b _ q1 ?_)
          rw [hm]
          refine Ev.step (fun k => by rw [impl_nester_one.j1]) ?_
          simp only [Bool.false_eq_true, if_false]
          exact one_end _ x hx _ c m1 n1 _ b [] h5.1 (fun e8 => absurd e8 h5.2)
      · refine .inr ⟨?_, fun m n => ?_⟩
        · refine Ev.step (fun k => by rw [spec_l3End.f]) ?_
          refine Ev.bind (hs _ k1) ?_
          simp only [if_pos p0, if_pos p1, hop, specIs_eq x hx, Option.bind_some]
          rcases ho with e2 | e2 | e2
          · have h4 : isB x c 4 = false := by
              rw [← Bool.not_eq_true]; intro hh; exact h5 ⟨hh, by omega⟩
            simp only [e2, if_neg (show ¬ (2 : Int) = 5 by decide), if_true, h4, hm2 e2, Bool.false_eq_true, if_false]; exact Ev.now _
          · have h4 : isB x c 4 = false := by
              rw [← Bool.not_eq_true]; intro hh; exact h5 ⟨hh, by omega⟩
            simp only [e2, if_true, h4, Bool.false_eq_true, if_false]; exact Ev.now _
          · simp only [e2, if_neg (show ¬ (8 : Int) = 5 by decide), if_neg (show ¬ (8 : Int) = 2 by decide), if_true, hm8 e2, Bool.false_eq_true, if_false]; exact Ev.now _
        · obtain ⟨m1, n1, q1⟩ := kf m n
          refine ⟨(c : Int), m1, n1, one_nest x hx a h ho m n (one_body x a (opx x a) c m n m1 n1 b _ q1 ?_)⟩
          rw [hm]
          refine Ev.step (fun k => by rw [impl_nester_one.j1]) ?_
          simp only [Bool.false_eq_true, if_false]
          refine one_noend _ x _ c m1 n1 _ b [] ?_
          by_cases e8 : opx x a = 8
          · exact .inr ⟨e8, by decide⟩
          · left
            rw [← Bool.not_eq_true]; intro hh; exact h5 ⟨hh, e8⟩
  · -- the body is not well nested
    refine .inr ⟨?_, fun m n => ?_⟩
    · refine Ev.step (fun k => by rw [spec_l3End.f]) ?_
      refine Ev.bind (hs _ k1) ?_
      simp only [if_pos p0, if_pos p1, hop, specIs_neg x hx, Option.bind_some, Bool.false_eq_true, if_false]
      rcases ho with e2 | e2 | e2
      · simp only [e2, if_neg (show ¬ (2 : Int) = 5 by decide), if_true]; exact Ev.now _
      · simp only [e2, if_true]; exact Ev.now _
      · simp only [e2, if_neg (show ¬ (8 : Int) = 5 by decide), if_neg (show ¬ (8 : Int) = 2 by decide), if_true]; exact Ev.now _
    · obtain ⟨a2, m2, n2, q2⟩ := k2 [] m n (by simp; omega)
      exact ⟨a2, m2, n2, one_nest x hx a h ho m n (one_nobody x a _ m n _ _ _ _ _ (Ev.step (fun k => by rw [impl_nester_many.f]) q2))⟩
theorem many_one (x : List S42) (a : Nat) (pre : List S71) (hp : pre.length ≤ 2000) (m n : Int) (b o : List S71) (e : Nat) (m1 n1 : Int) (k1 : Ev (fun k => impl_nester_one.f k x (a : Int) m n) ((a : Int), b, o, true, (e : Int), m1, n1)) {r : List S71 × Bool × Int × Int × Int} (k : Ev (fun k => impl_nester_many.l0 k (pre ++ [⟨(a : Int), b, o⟩]) x (e : Int) m1 n1) r) : Ev (fun k => impl_nester_many.j1 k pre true x (a : Int) m n) r := by
  refine Ev.step (fun k => by rw [impl_nester_many.j1]) ?_
  simp only [if_true]
  refine Ev.bind k1 ?_
  simp only [if_true, if_pos (show pre.length < 2513169434916 by omega)]
  exact k
theorem many_none (x : List S42) (a : Nat) (pre : List S71) (m n a1 m1 n1 : Int) (k1 : Ev (fun k => impl_nester_one.f k x (a : Int) m n) (0, [], [], false, a1, m1, n1)) : Ev (fun k => impl_nester_many.j1 k pre true x (a : Int) m n) ([], false, a1, m1, n1) := by
  refine Ev.step (fun k => by rw [impl_nester_many.j1]) ?_
  simp only [if_true]
  refine Ev.bind k1 ?_
  simp only [Bool.false_eq_true, if_false]
  exact Ev.now _
theorem blk_all (x : List S42) (hx : x.length ≤ 1000) (d : Nat) : ∀ a : Nat, a + d = x.length → Blk x a := by
  induction d using Nat.strongRecOn with
  | _ d ih =>
  intro a ha
  have ih' : ∀ a', a < a' → a' ≤ x.length → Blk x a' := fun a' h1 h2 => ih (x.length - a') (by omega) a' (by omega)
  by_cases hl : x.length ≤ a
  · exact .inl ⟨a, [], by omega, .nil (.inl hl), l3B_end x a hl, fun pre m n _ => ⟨m, n, by rw [List.append_nil]; exact many_stop x a (.inl hl) pre m n⟩⟩
  have h : a < x.length := by omega
  by_cases hs : opx x a = 3 ∨ opx x a = 4 ∨ opx x a = 9
  · exact .inl ⟨a, [], by omega, .nil (.inr hs), l3B_stop x a h hs, fun pre m n _ => ⟨m, n, by rw [List.append_nil]; exact many_stop x a (.inr hs) pre m n⟩⟩
  by_cases hn : opx x a = 2 ∨ opx x a = 5 ∨ opx x a = 8
  · rcases en_of x hx a h hn ih' with ⟨mid, e, b, o, hae, hel, hnd, k1, k2⟩ | ⟨k1, k2⟩
    · have nst : ∀ {e' : Nat} {l : List S71}, Nst x (e + 1) e' l → Nst x a e' (⟨(a : Int), b, o⟩ :: l) := by
        intro e' l hr
        obtain ⟨h4, hh⟩ := hnd
        rcases hh with ⟨ho, _, rfl, hb⟩ | ⟨c, _, ho, hb, hm⟩
        · exact .one h ho hb h4 hr
        · exact .two h ho hb hm h4 hr
      rcases ih' (e + 1) (by omega) (by omega) with ⟨e', l, he', hl', j1, j2⟩ | ⟨j1, j2⟩
      · refine .inl ⟨e', _, he', nst hl', l3B_nest x hx a h hn (by omega) k1 j1, fun pre m n hp => ?_⟩
        obtain ⟨m', n', q⟩ := j2 (pre ++ [⟨(a : Int), b, o⟩]) mid (e : Int) (by simp; omega)
        refine ⟨m', n', many_go x a h (by omega) (by omega) (by omega) pre m n (many_one x a pre (by omega) m n b o (e + 1) _ _ (k2 m n) ?_)⟩
        rw [List.append_assoc] at q
        exact q
      · refine .inr ⟨l3B_nest x hx a h hn (by omega) k1 j1, fun pre m n hp => ?_⟩
        obtain ⟨a', m', n', q⟩ := j2 (pre ++ [⟨(a : Int), b, o⟩]) mid (e : Int) (by simp; omega)
        exact ⟨a', m', n', many_go x a h (by omega) (by omega) (by omega) pre m n (many_one x a pre (by omega) m n b o (e + 1) _ _ (k2 m n) q)⟩
    · refine .inr ⟨l3B_fail x a h hn k1, fun pre m n hp => ?_⟩
      obtain ⟨a', m', n', q⟩ := k2 m n
      exact ⟨a', m', n', many_go x a h (by omega) (by omega) (by omega) pre m n (many_none x a pre m n _ _ _ q)⟩
  · have ho : opx x a ≠ 2 ∧ opx x a ≠ 3 ∧ opx x a ≠ 4 ∧ opx x a ≠ 5 ∧ opx x a ≠ 8 ∧ opx x a ≠ 9 := by omega
    have q1 := fun m n => one_leaf x hx a h ⟨ho.1, ho.2.2.2.1, ho.2.2.2.2.1⟩ m n
    rcases ih' (a + 1) (by omega) (by omega) with ⟨e', l, he', hl', j1, j2⟩ | ⟨j1, j2⟩
    · refine .inl ⟨e', _, he', .leaf h ho hl', l3B_leaf x hx a h ho j1, fun pre m n hp => ?_⟩
      obtain ⟨m', n', q⟩ := j2 (pre ++ [⟨(a : Int), [], []⟩]) m n (by simp; omega)
      refine ⟨m', n', many_go x a h ho.2.1 ho.2.2.1 ho.2.2.2.2.2 pre m n (many_one x a pre (by omega) m n [] [] (a + 1) _ _ (q1 m n) ?_)⟩
      rw [List.append_assoc] at q
      exact q
    · refine .inr ⟨l3B_leaf x hx a h ho j1, fun pre m n hp => ?_⟩
      obtain ⟨a', m', n', q⟩ := j2 (pre ++ [⟨(a : Int), [], []⟩]) m n (by simp; omega)
      exact ⟨a', m', n', many_go x a h ho.2.1 ho.2.2.1 ho.2.2.2.2.2 pre m n (many_one x a pre (by omega) m n [] [] (a + 1) _ _ (q1 m n) q)⟩
theorem en_all (x : List S42) (hx : x.length ≤ 1000) (a : Nat) (h : a < x.length) (ho : opx x a = 2 ∨ opx x a = 5 ∨ opx x a = 8) : En x a := en_of x hx a h ho (fun a' _ h2 => blk_all x hx (x.length - a') a' (by omega))

end Go.Proofs.Ytbjmhdoagjmmcaa.Pure
