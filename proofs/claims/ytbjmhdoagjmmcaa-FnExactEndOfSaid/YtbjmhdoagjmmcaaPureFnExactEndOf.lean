/- EndOf of the program and of the reference answer alike, for every list of Stmts and every place, and the argument is left as it was; no condition. -/
import Derived.Test.YtbjmhdoagjmmcaaPFnExactEndOfx7
import Derived.Test.YtbjmhdoagjmmcaaTerm
set_option linter.unusedVariables false
set_option linter.unusedSimpArgs false
namespace Go.Proofs.Ytbjmhdoagjmmcaa.Pure
open Go.RowKit Go.Proofs.Ytbjmhdoagjmmcaa.PFnExactEndOf Go.Proofs.YtbjmhdoagjmmcaaW.PrintWords Go.Proofs.YtbjmhdoagjmmcaaW.PrintLast Go.Proofs.YtbjmhdoagjmmcaaW.PrintMore Go.Proofs.Ytbjmhdoagjmmcaa.Bs

theorem l1In_eq (a b c : Int) : spec_l1In.f a b c = some (decide (b ≤ a) && decide (a ≤ c)) := by
  unfold spec_l1In.f
  by_cases h : a ≥ b
  · rw [if_pos h]; simp [show b ≤ a from h]
  · rw [if_neg h]; simp [show ¬ b ≤ a from h]

/-- The Op of a place. -/
def opx (x : List S42) (a : Nat) : Int := (rd_T42 x (a : Int)).f0
/-- There is this Op at the place. -/
def isB (x : List S42) (a : Nat) (c : Int) : Bool := decide (a < x.length) && (opx x a == c)
theorem isB_lt {x : List S42} {a : Nat} {c : Int} (h : isB x a c = true) : a < x.length ∧ opx x a = c := by
  simp only [isB, Bool.and_eq_true, decide_eq_true_eq, beq_iff_eq] at h; exact h
theorem implIs_eq (x : List S42) (a : Nat) (m n c : Int) : impl_nester_is.f x (a : Int) m n c = some (isB x a c) := by
  unfold impl_nester_is.f isB opx
  by_cases h : a < x.length
  · rw [if_pos (by omega), if_pos (by omega), decide_eq_true h, Bool.true_and]
  · rw [if_neg (by omega), decide_eq_false h, Bool.false_and]
theorem specIs_eq (x : List S42) (hx : x.length ≤ 1000) (a : Nat) (c : Int) : spec_l3Is.f x (a : Int) c = some (isB x a c) := by
  unfold spec_l3Is.f isB opx
  rw [wrap_id (show -9223372036854775808 ≤ (x.length : Int) - 1 by omega) (by omega), l1In_eq, Option.bind_some]
  by_cases h : a < x.length
  · rw [if_pos (by simp; omega), if_pos (by omega), if_pos (by omega), decide_eq_true h, Bool.true_and]
  · rw [if_neg (by simp; omega), decide_eq_false h, Bool.false_and]
theorem specIs_neg (x : List S42) (hx : x.length ≤ 1000) (c : Int) : spec_l3Is.f x (-1) c = some false := by
  unfold spec_l3Is.f
  rw [wrap_id (show -9223372036854775808 ≤ (x.length : Int) - 1 by omega) (by omega), l1In_eq, Option.bind_some, if_neg (by simp)]
/-- Where a block stops: behind all, or at an else, an end, a catch. -/
def stops (x : List S42) (a : Nat) : Prop := x.length ≤ a ∨ opx x a = 3 ∨ opx x a = 4 ∨ opx x a = 9
/-- From a place to where the block stops: its nodes. -/
inductive Nst (x : List S42) : Nat → Nat → List S71 → Prop where
  | nil {a : Nat} (h : stops x a) : Nst x a a []
  | leaf {a e : Nat} {l : List S71} (h : a < x.length) (ho : opx x a ≠ 2 ∧ opx x a ≠ 3 ∧ opx x a ≠ 4 ∧ opx x a ≠ 5 ∧ opx x a ≠ 8 ∧ opx x a ≠ 9) (hr : Nst x (a + 1) e l) : Nst x a e (⟨(a : Int), [], []⟩ :: l)
  | one {a c e : Nat} {b l : List S71} (h : a < x.length) (ho : opx x a = 2 ∨ opx x a = 5) (hb : Nst x (a + 1) c b) (hc : isB x c 4 = true) (hr : Nst x (c + 1) e l) : Nst x a e (⟨(a : Int), b, []⟩ :: l)
  | two {a c d e : Nat} {b o l : List S71} (h : a < x.length) (ho : opx x a = 2 ∧ isB x c 3 = true ∨ opx x a = 8 ∧ isB x c 9 = true) (hb : Nst x (a + 1) c b) (hm : Nst x (c + 1) d o) (hd : isB x d 4 = true) (hr : Nst x (d + 1) e l) : Nst x a e (⟨(a : Int), b, o⟩ :: l)
theorem Nst.le {x : List S42} {a e : Nat} {l : List S71} (h : Nst x a e l) : a ≤ e := by
  induction h with
  | nil => exact Nat.le_refl _
  | leaf _ _ _ ih => omega
  | one _ _ _ _ _ ih1 ih2 => omega
  | two _ _ _ _ _ _ ih1 ih2 ih3 => omega
theorem Nst.stop {x : List S42} {a e : Nat} {l : List S71} (h : Nst x a e l) : stops x e := by
  induction h with
  | nil h => exact h
  | leaf _ _ _ ih => exact ih
  | one _ _ _ _ _ _ ih2 => exact ih2
  | two _ _ _ _ _ _ _ _ ih3 => exact ih3
/-- What stands at a place of an if, a loop, a try: where its middle is (or -1), where its end, its parts. -/
def Nd (x : List S42) (a : Nat) (mid : Int) (e : Nat) (b o : List S71) : Prop :=
  isB x e 4 = true ∧ (((opx x a = 2 ∨ opx x a = 5) ∧ mid = -1 ∧ o = [] ∧ Nst x (a + 1) e b) ∨
    ∃ c : Nat, mid = (c : Int) ∧ (opx x a = 2 ∧ isB x c 3 = true ∨ opx x a = 8 ∧ isB x c 9 = true) ∧ Nst x (a + 1) c b ∧ Nst x (c + 1) e o)
def BlkOk (x : List S42) (a e : Nat) (l : List S71) : Prop :=
  Ev (fun k => spec_l3Block.l0 k x (a : Int)) (e : Int) ∧ ∀ (pre : List S71) (m n : Int), pre.length + (x.length - a) ≤ 2000 → ∃ m' n', Ev (fun k => impl_nester_many.l0 k pre x (a : Int) m n) (pre ++ l, true, (e : Int), m', n')
def BlkNo (x : List S42) (a : Nat) : Prop :=
  Ev (fun k => spec_l3Block.l0 k x (a : Int)) (-1) ∧ ∀ (pre : List S71) (m n : Int), pre.length + (x.length - a) ≤ 2000 → ∃ a' m' n', Ev (fun k => impl_nester_many.l0 k pre x (a : Int) m n) ([], false, a', m', n')
def Blk (x : List S42) (a : Nat) : Prop := (∃ e l, e ≤ x.length ∧ Nst x a e l ∧ BlkOk x a e l) ∨ BlkNo x a
def EnOk (x : List S42) (a : Nat) (mid : Int) (e : Nat) (b o : List S71) : Prop :=
  Ev (fun k => spec_l3End.f k x (a : Int)) (mid, (e : Int)) ∧ ∀ m n : Int, Ev (fun k => impl_nester_one.f k x (a : Int) m n) ((a : Int), b, o, true, ((e + 1 : Nat) : Int), mid, (e : Int))
def EnNo (x : List S42) (a : Nat) : Prop :=
  Ev (fun k => spec_l3End.f k x (a : Int)) (-1, -1) ∧ ∀ m n : Int, ∃ a' m' n', Ev (fun k => impl_nester_one.f k x (a : Int) m n) (0, [], [], false, a', m', n')
def En (x : List S42) (a : Nat) : Prop := (∃ mid e b o, a < e ∧ e < x.length ∧ Nd x a mid e b o ∧ EnOk x a mid e b o) ∨ EnNo x a
/-! The steps of the reference. -/
theorem l3B_end (x : List S42) (a : Nat) (h : x.length ≤ a) : Ev (fun k => spec_l3Block.l0 k x (a : Int)) (a : Int) := by
  refine Ev.step (fun k => by rw [spec_l3Block.l0]) ?_
  simp only [if_neg (show ¬ (a : Int) < (x.length : Int) by omega)]
  exact Ev.now _
theorem l3B_stop (x : List S42) (a : Nat) (h : a < x.length) (ho : opx x a = 3 ∨ opx x a = 4 ∨ opx x a = 9) : Ev (fun k => spec_l3Block.l0 k x (a : Int)) (a : Int) := by
  unfold opx at ho
  refine Ev.step (fun k => by rw [spec_l3Block.l0]) ?_
  simp only [if_pos (show (a : Int) < (x.length : Int) by omega), if_pos (show 0 ≤ (a : Int) by omega)]
  rcases ho with ho | ho | ho
  · simp only [ho, if_true, beq_self_eq_true]
    refine Ev.step (fun k => by rw [spec_l3Block.j1]) ?_
    simp only [if_true]; exact Ev.now _
  · simp only [ho, if_neg (show ¬ (4 : Int) = 3 by decide), if_neg (show ¬ (4 : Int) = 9 by decide), beq_self_eq_true]
    refine Ev.step (fun k => by rw [spec_l3Block.j1]) ?_
    simp only [if_true]; exact Ev.now _
  · simp only [ho, if_neg (show ¬ (9 : Int) = 3 by decide), if_true, beq_self_eq_true]
    refine Ev.step (fun k => by rw [spec_l3Block.j1]) ?_
    simp only [if_true]; exact Ev.now _
theorem l3B_go (x : List S42) (a : Nat) (h : a < x.length) (h3 : opx x a ≠ 3) (h4 : opx x a ≠ 4) (h9 : opx x a ≠ 9) (b : Bool) (hb : b = true ↔ (opx x a = 2 ∨ opx x a = 5 ∨ opx x a = 8)) {r : Int} (k : Ev (fun k => spec_l3Block.j2 k x (a : Int) b) r) : Ev (fun k => spec_l3Block.l0 k x (a : Int)) r := by
  unfold opx at h3 h4 h9 hb
  refine Ev.step (fun k => by rw [spec_l3Block.l0]) ?_
  simp only [if_pos (show (a : Int) < (x.length : Int) by omega), if_pos (show 0 ≤ (a : Int) by omega), if_neg h3, if_neg h9, beq_eq_false_iff_ne.2 h4]
  refine Ev.step (fun k => by rw [spec_l3Block.j1]) ?_
  simp only [Bool.false_eq_true, if_false]
  generalize (rd_T42 x (a : Int)).f0 = op at hb
  by_cases c2 : op = 2
  · subst c2
    obtain rfl : b = true := hb.2 (by simp)
    simp only [if_true, beq_self_eq_true]; exact k
  by_cases c5 : op = 5
  · subst c5
    obtain rfl : b = true := hb.2 (by simp)
    simp only [if_neg c2, if_true, beq_self_eq_true]; exact k
  simp only [if_neg c2, if_neg c5]
  by_cases c8 : op = 8
  · subst c8
    obtain rfl : b = true := hb.2 (by simp)
    simp only [beq_self_eq_true]; exact k
  · have : b = false := by
      rw [← Bool.not_eq_true]; intro hh
      have := hb.1 hh
      omega
    subst this
    simp only [beq_eq_false_iff_ne.2 c8]; exact k
theorem l3B_leaf (x : List S42) (hx : x.length ≤ 1000) (a : Nat) (h : a < x.length) (ho : opx x a ≠ 2 ∧ opx x a ≠ 3 ∧ opx x a ≠ 4 ∧ opx x a ≠ 5 ∧ opx x a ≠ 8 ∧ opx x a ≠ 9) {r : Int} (k : Ev (fun k => spec_l3Block.l0 k x ((a + 1 : Nat) : Int)) r) : Ev (fun k => spec_l3Block.l0 k x (a : Int)) r := by
  refine l3B_go x a h ho.2.1 ho.2.2.1 ho.2.2.2.2.2 false (by simp [ho.1, ho.2.2.2.1, ho.2.2.2.2.1]) ?_
  refine Ev.step (fun k => by rw [spec_l3Block.j2]) ?_
  simp only [Bool.false_eq_true, if_false, wrap_succ (show a < 9223372036854775807 by omega)]
  exact k
theorem l3B_nest (x : List S42) (hx : x.length ≤ 1000) (a : Nat) (h : a < x.length) (ho : opx x a = 2 ∨ opx x a = 5 ∨ opx x a = 8) {mid : Int} {e : Nat} {r : Int} (he : e ≤ x.length) (k1 : Ev (fun k => spec_l3End.f k x (a : Int)) (mid, (e : Int))) (k : Ev (fun k => spec_l3Block.l0 k x ((e + 1 : Nat) : Int)) r) : Ev (fun k => spec_l3Block.l0 k x (a : Int)) r := by
  refine l3B_go x a h (by omega) (by omega) (by omega) true (by simp [ho]) ?_
  refine Ev.step (fun k => by rw [spec_l3Block.j2]) ?_
  simp only [if_true]
  refine Ev.bind k1 ?_
  simp only [if_neg (show ¬ (e : Int) < 0 by omega), wrap_succ (show e < 9223372036854775807 by omega)]
  exact k
theorem l3B_fail (x : List S42) (a : Nat) (h : a < x.length) (ho : opx x a = 2 ∨ opx x a = 5 ∨ opx x a = 8) (k1 : Ev (fun k => spec_l3End.f k x (a : Int)) (-1, -1)) : Ev (fun k => spec_l3Block.l0 k x (a : Int)) (-1) := by
  refine l3B_go x a h (by omega) (by omega) (by omega) true (by simp [ho]) ?_
  refine Ev.step (fun k => by rw [spec_l3Block.j2]) ?_
  simp only [if_true]
  refine Ev.bind k1 ?_
  simp only [if_pos (show (-1 : Int) < 0 by decide)]
  exact Ev.now _
theorem l3E_step (x : List S42) (a : Nat) (h : a < x.length) (hx : x.length ≤ 1000) {t : Int} (k1 : Ev (fun k => spec_l3Block.l0 k x ((a + 1 : Nat) : Int)) t) : Ev (fun k => spec_l3Block.f k x (wrap64 ((a : Int) + 1))) t := by
  rw [wrap_succ (show a < 9223372036854775807 by omega)]
  exact Ev.step (fun k => by rw [spec_l3Block.f]) k1
/-! The steps of the program. -/
theorem many_stop (x : List S42) (a : Nat) (h : stops x a) (pre : List S71) (m n : Int) : Ev (fun k => impl_nester_many.l0 k pre x (a : Int) m n) (pre, true, (a : Int), m, n) := by
  refine Ev.step (fun k => by rw [impl_nester_many.l0]) ?_
  by_cases c : (a : Int) < (x.length : Int)
  · have hs : isB x a 3 = true ∨ isB x a 4 = true ∨ isB x a 9 = true := by
      have hl : a < x.length := by omega
      simp only [isB, decide_eq_true hl, Bool.true_and, beq_iff_eq]
      rcases h with h | h
      · omega
      · exact h
    simp only [if_pos c, implIs_eq, Option.bind_some]
    by_cases c3 : isB x a 3 = true
    · simp only [if_pos c3]
      refine Ev.step (fun k => by rw [impl_nester_many.j1]) ?_
      simp only [Bool.false_eq_true, if_false]; exact Ev.now _
    by_cases c4 : isB x a 4 = true
    · simp only [if_neg c3, if_pos c4]
      refine Ev.step (fun k => by rw [impl_nester_many.j1]) ?_
      simp only [Bool.false_eq_true, if_false]; exact Ev.now _
    have c9 : isB x a 9 = true := by
      rcases hs with h | h | h
      · exact absurd h c3
      · exact absurd h c4
      · exact h
    simp only [if_neg c3, if_neg c4, c9, Bool.not_true]
    refine Ev.step (fun k => by rw [impl_nester_many.j1]) ?_
    simp only [Bool.false_eq_true, if_false]; exact Ev.now _
  · simp only [if_neg c]
    refine Ev.step (fun k => by rw [impl_nester_many.j1]) ?_
    simp only [Bool.false_eq_true, if_false]; exact Ev.now _
theorem many_go (x : List S42) (a : Nat) (h : a < x.length) (h3 : opx x a ≠ 3) (h4 : opx x a ≠ 4) (h9 : opx x a ≠ 9) (pre : List S71) (m n : Int) {r : List S71 × Bool × Int × Int × Int} (k : Ev (fun k => impl_nester_many.j1 k pre true x (a : Int) m n) r) : Ev (fun k => impl_nester_many.l0 k pre x (a : Int) m n) r := by
  have e3 : isB x a 3 = false := by simp only [isB, beq_eq_false_iff_ne.2 h3, Bool.and_false]
  have e4 : isB x a 4 = false := by simp only [isB, beq_eq_false_iff_ne.2 h4, Bool.and_false]
  have e9 : isB x a 9 = false := by simp only [isB, beq_eq_false_iff_ne.2 h9, Bool.and_false]
  refine Ev.step (fun k => by rw [impl_nester_many.l0]) ?_
  simp only [if_pos (show (a : Int) < (x.length : Int) by omega), implIs_eq, Option.bind_some, e3, e4, e9, Bool.false_eq_true, if_false, Bool.not_false]
  exact k
theorem one_leaf (x : List S42) (hx : x.length ≤ 1000) (a : Nat) (h : a < x.length) (ho : opx x a ≠ 2 ∧ opx x a ≠ 5 ∧ opx x a ≠ 8) (m n : Int) : Ev (fun k => impl_nester_one.f k x (a : Int) m n) ((a : Int), [], [], true, ((a + 1 : Nat) : Int), m, n) := by
  unfold opx at ho
  refine Ev.step (fun k => by rw [impl_nester_one.f]) ?_
  simp only [if_pos (show (a : Int) < (x.length : Int) by omega), if_pos (show 0 ≤ (a : Int) by omega), if_neg ho.1, if_neg ho.2.1, bne_iff_ne.2 ho.2.2, wrap_succ (show a < 9223372036854775807 by omega)]
  refine Ev.step (fun k => by rw [impl_nester_one.j0]) ?_
  simp only [if_true]
  exact Ev.now _
theorem one_nest (x : List S42) (hx : x.length ≤ 1000) (a : Nat) (h : a < x.length) (ho : opx x a = 2 ∨ opx x a = 5 ∨ opx x a = 8) (m n : Int) {r : Int × List S71 × List S71 × Bool × Int × Int × Int} (k : Ev (fun k => impl_nester_one.j0 k (opx x a) false x ((a + 1 : Nat) : Int) m n (a : Int)) r) : Ev (fun k => impl_nester_one.f k x (a : Int) m n) r := by
  unfold opx at ho k
  refine Ev.step (fun k => by rw [impl_nester_one.f]) ?_
  simp only [if_pos (show (a : Int) < (x.length : Int) by omega), if_pos (show 0 ≤ (a : Int) by omega), wrap_succ (show a < 9223372036854775807 by omega)]
  generalize (rd_T42 x (a : Int)).f0 = op at ho k
  rcases ho with rfl | rfl | rfl
  · simp only [if_true]; exact k
  · simp only [if_neg (show ¬ (5 : Int) = 2 by decide), if_true]; exact k
  · simp only [if_neg (show ¬ (8 : Int) = 2 by decide), if_neg (show ¬ (8 : Int) = 5 by decide), bne_self_eq_false]; exact k
/-- The end of a node with a body: from where its last part stops. -/
theorem one_fail (op : Int) (x : List S42) (mid at_ m n a : Int) (b o : List S71) : Ev (fun k => impl_nester_one.j2 k op false mid x at_ m n a b o) (0, [], [], false, at_, m, n) := by
  refine Ev.step (fun k => by rw [impl_nester_one.j2]) ?_
  simp only [Bool.false_eq_true, if_false]
  refine Ev.step (fun k => by rw [impl_nester_one.j3]) ?_
  simp only [if_true]
  exact Ev.now _
theorem one_noend (op : Int) (x : List S42) (mid : Int) (c : Nat) (m n a : Int) (b o : List S71) (h : isB x c 4 = false ∨ op = 8 ∧ mid < 0) : Ev (fun k => impl_nester_one.j2 k op true mid x (c : Int) m n a b o) (0, [], [], false, (c : Int), m, n) := by
  refine Ev.step (fun k => by rw [impl_nester_one.j2]) ?_
  simp only [if_true, implIs_eq, Option.bind_some]
  by_cases c4 : isB x c 4 = true
  · have h8 : op = 8 ∧ mid < 0 := by
      rcases h with h | h
      · rw [h] at c4; cases c4
      · exact h
    simp only [if_pos c4, if_pos h8.1, decide_eq_true h8.2]
    refine Ev.step (fun k => by rw [impl_nester_one.j3]) ?_
    simp only [if_true]
    exact Ev.now _
  · simp only [if_neg c4]
    refine Ev.step (fun k => by rw [impl_nester_one.j3]) ?_
    simp only [if_true]
    exact Ev.now _
theorem one_end (op : Int) (x : List S42) (hx : x.length ≤ 1000) (mid : Int) (c : Nat) (m n a : Int) (b o : List S71) (h : isB x c 4 = true) (h8 : op = 8 → ¬ mid < 0) : Ev (fun k => impl_nester_one.j2 k op true mid x (c : Int) m n a b o) (a, b, o, true, ((c + 1 : Nat) : Int), mid, (c : Int)) := by
  have hc := (isB_lt h).1
  refine Ev.step (fun k => by rw [impl_nester_one.j2]) ?_
  simp only [if_true, implIs_eq, Option.bind_some, if_pos h]
  by_cases c8 : op = 8
  · simp only [if_pos c8, decide_eq_false (h8 c8)]
    refine Ev.step (fun k => by rw [impl_nester_one.j3]) ?_
    simp only [Bool.false_eq_true, if_false, wrap_succ (show c < 9223372036854775807 by omega)]
    exact Ev.now _
  · simp only [if_neg c8]
    refine Ev.step (fun k => by rw [impl_nester_one.j3]) ?_
    simp only [Bool.false_eq_true, if_false, wrap_succ (show c < 9223372036854775807 by omega)]
    exact Ev.now _
/-- With a middle, or without. -/
theorem one_body (x : List S42) (a : Nat) (op : Int) (c : Nat) (m n m' n' : Int) (b : List S71) (at1 : Int) (k1 : Ev (fun k => impl_nester_many.f k x at1 m n) (b, true, (c : Int), m', n')) {r : Int × List S71 × List S71 × Bool × Int × Int × Int}
    (k : Ev (fun k => impl_nester_one.j1 k op true (-1) (decide (op = 2) && isB x c 3 || decide (op = 8) && isB x c 9) x (c : Int) m' n' (a : Int) b) r) : Ev (fun k => impl_nester_one.j0 k op false x at1 m n (a : Int)) r := by
  refine Ev.step (fun k => by rw [impl_nester_one.j0]) ?_
  simp only [Bool.false_eq_true, if_false]
  refine Ev.bind k1 ?_
  simp only [if_true, implIs_eq, Option.bind_some]
  by_cases c2 : op = 2
  · subst c2
    simp only [decide_true, Bool.true_and, if_true] at k ⊢
    by_cases c3 : isB x c 3 = true
    · simp only [c3, Bool.true_or, if_true] at k ⊢; exact k
    · rw [Bool.not_eq_true] at c3
      simp only [c3, Bool.false_or, Bool.false_eq_true, if_false, show decide ((2 : Int) = 8) = false by decide, Bool.false_and, if_neg (show ¬ (2 : Int) = 8 by decide)] at k ⊢; exact k
  · simp only [decide_eq_false c2, Bool.false_and, Bool.false_or, if_neg c2] at k ⊢
    by_cases c8 : op = 8
    · simp only [decide_eq_true c8, Bool.true_and, if_pos c8] at k ⊢; exact k
    · simp only [decide_eq_false c8, Bool.false_and, if_neg c8] at k ⊢; exact k
theorem one_nobody (x : List S42) (a : Nat) (op : Int) (m n c m' n' : Int) (b : List S71) (at1 : Int) (k1 : Ev (fun k => impl_nester_many.f k x at1 m n) (b, false, c, m', n')) : Ev (fun k => impl_nester_one.j0 k op false x at1 m n (a : Int)) (0, [], [], false, c, m', n') := by
  refine Ev.step (fun k => by rw [impl_nester_one.j0]) ?_
  simp only [Bool.false_eq_true, if_false]
  refine Ev.bind k1 ?_
  simp only [Bool.false_eq_true, if_false]
  refine Ev.step (fun k => by rw [impl_nester_one.j1]) ?_
  simp only [Bool.false_eq_true, if_false]
  exact one_fail _ _ _ _ _ _ _ _ _
/-- An if, a loop, a try: out of what is told of all blocks behind it. -/
theorem en_of (x : List S42) (hx : x.length ≤ 1000) (a : Nat) (h : a < x.length) (ho : opx x a = 2 ∨ opx x a = 5 ∨ opx x a = 8) (ih : ∀ a', a < a' → a' ≤ x.length → Blk x a') : En x a := by
  have hs : ∀ t : Int, Ev (fun k => spec_l3Block.l0 k x ((a + 1 : Nat) : Int)) t → Ev (fun k => spec_l3Block.f k x (wrap64 ((a : Int) + 1))) t := fun t k => l3E_step x a h hx k
  have hop : (rd_T42 x (a : Int)).f0 = opx x a := rfl
  have p0 : 0 ≤ (a : Int) := by omega
  have p1 : (a : Int) < (x.length : Int) := by omega
  rcases ih (a + 1) (by omega) (by omega) with ⟨c, b, hc, hn, k1, k2⟩ | ⟨k1, k2⟩
  · have hac := hn.le
    have kf : ∀ m n : Int, ∃ m' n', Ev (fun k => impl_nester_many.f k x ((a + 1 : Nat) : Int) m n) (b, true, (c : Int), m', n') := by
      intro m n
      obtain ⟨m', n', kk⟩ := k2 [] m n (by simp; omega)
      exact ⟨m', n', Ev.step (fun k => by rw [impl_nester_many.f]) kk⟩
    by_cases hm : (decide (opx x a = 2) && isB x c 3 || decide (opx x a = 8) && isB x c 9) = true
    · -- a middle
      have hm' : opx x a = 2 ∧ isB x c 3 = true ∨ opx x a = 8 ∧ isB x c 9 = true := by simpa using hm
      have hcl : c < x.length := by
        rcases hm' with hh | hh
        · exact (isB_lt hh.2).1
        · exact (isB_lt hh.2).1
      have h4 : isB x c 4 = false := by
        rw [← Bool.not_eq_true]; intro hh
        have e1 := (isB_lt hh).2
        rcases hm' with hh2 | hh2
        · have := (isB_lt hh2.2).2; omega
        · have := (isB_lt hh2.2).2; omega
      rcases ih (c + 1) (by omega) (by omega) with ⟨d, o, hd, hno, j1, j2⟩ | ⟨j1, j2⟩
      · have hcd := hno.le
        have kg : ∀ m n : Int, ∃ m' n', Ev (fun k => impl_nester_many.f k x (wrap64 ((c : Int) + 1)) m n) (o, true, (d : Int), m', n') := by
          intro m n
          obtain ⟨m', n', kk⟩ := j2 [] m n (by simp; omega)
          rw [wrap_succ (show c < 9223372036854775807 by omega)]
          exact ⟨m', n', Ev.step (fun k => by rw [impl_nester_many.f]) kk⟩
        have js : Ev (fun k => spec_l3Block.f k x (wrap64 ((c : Int) + 1))) (d : Int) := l3E_step x c hcl hx j1
        by_cases h5 : isB x d 4 = true
        · have hdl := (isB_lt h5).1
          refine .inl ⟨(c : Int), d, b, o, by omega, hdl, ⟨h5, .inr ⟨c, rfl, hm', hn, hno⟩⟩, ?_, fun m n => ?_⟩
          · refine Ev.step (fun k => by rw [spec_l3End.f]) ?_
            refine Ev.bind (hs _ k1) ?_
            simp only [if_pos p0, if_pos p1, hop, specIs_eq x hx, Option.bind_some, h4, Bool.false_eq_true, if_false]
            rcases hm' with ⟨e2, e3⟩ | ⟨e2, e3⟩
            · simp only [e2, if_neg (show ¬ (2 : Int) = 5 by decide), if_true, e3]
              refine Ev.bind js ?_
              simp only [specIs_eq x hx, Option.bind_some, h5, if_true]
              exact Ev.now _
            · simp only [e2, if_neg (show ¬ (8 : Int) = 5 by decide), if_neg (show ¬ (8 : Int) = 2 by decide), if_true, e3]
              refine Ev.bind js ?_
              simp only [specIs_eq x hx, Option.bind_some, h5, if_true]
              exact Ev.now _
          · obtain ⟨m1, n1, q1⟩ := kf m n
            obtain ⟨m2, n2, q2⟩ := kg m1 n1
            refine one_nest x hx a h ho m n (one_body x a (opx x a) c m n m1 n1 b _ q1 ?_)
            rw [hm]
            refine Ev.step (fun k => by rw [impl_nester_one.j1]) ?_
            simp only [if_true]
            refine Ev.bind q2 ?_
            exact one_end _ x hx _ d m2 n2 _ b o h5 (fun _ => by omega)
        · rw [Bool.not_eq_true] at h5
          refine .inr ⟨?_, fun m n => ?_⟩
          · refine Ev.step (fun k => by rw [spec_l3End.f]) ?_
            refine Ev.bind (hs _ k1) ?_
            simp only [if_pos p0, if_pos p1, hop, specIs_eq x hx, Option.bind_some, h4, Bool.false_eq_true, if_false]
            rcases hm' with ⟨e2, e3⟩ | ⟨e2, e3⟩
            · simp only [e2, if_neg (show ¬ (2 : Int) = 5 by decide), if_true, e3]
              refine Ev.bind js ?_
              simp only [specIs_eq x hx, Option.bind_some, h5, Bool.false_eq_true, if_false]
              exact Ev.now _
            · simp only [e2, if_neg (show ¬ (8 : Int) = 5 by decide), if_neg (show ¬ (8 : Int) = 2 by decide), if_true, e3]
              refine Ev.bind js ?_
              simp only [specIs_eq x hx, Option.bind_some, h5, Bool.false_eq_true, if_false]
              exact Ev.now _
          · obtain ⟨m1, n1, q1⟩ := kf m n
            obtain ⟨m2, n2, q2⟩ := kg m1 n1
            refine ⟨(d : Int), m2, n2, one_nest x hx a h ho m n (one_body x a (opx x a) c m n m1 n1 b _ q1 ?_)⟩
            rw [hm]
            refine Ev.step (fun k => by rw [impl_nester_one.j1]) ?_
            simp only [if_true]
            refine Ev.bind q2 ?_
            exact one_noend _ x _ d m2 n2 _ b o (.inl h5)
      · -- what is behind the middle is not well nested
        refine .inr ⟨?_, fun m n => ?_⟩
        · have js : Ev (fun k => spec_l3Block.f k x (wrap64 ((c : Int) + 1))) (-1) := l3E_step x c hcl hx j1
          refine Ev.step (fun k => by rw [spec_l3End.f]) ?_
          refine Ev.bind (hs _ k1) ?_
          simp only [if_pos p0, if_pos p1, hop, specIs_eq x hx, Option.bind_some, h4, Bool.false_eq_true, if_false]
          rcases hm' with ⟨e2, e3⟩ | ⟨e2, e3⟩
          · simp only [e2, if_neg (show ¬ (2 : Int) = 5 by decide), if_true, e3]
            refine Ev.bind js ?_
            simp only [specIs_neg x hx, Option.bind_some, Bool.false_eq_true, if_false]
            exact Ev.now _
          · simp only [e2, if_neg (show ¬ (8 : Int) = 5 by decide), if_neg (show ¬ (8 : Int) = 2 by decide), if_true, e3]
            refine Ev.bind js ?_
            simp only [specIs_neg x hx, Option.bind_some, Bool.false_eq_true, if_false]
            exact Ev.now _
        · obtain ⟨m1, n1, q1⟩ := kf m n
          obtain ⟨a2, m2, n2, q2⟩ := j2 [] m1 n1 (by simp; omega)
          have q2' : Ev (fun k => impl_nester_many.f k x (wrap64 ((c : Int) + 1)) m1 n1) ([], false, a2, m2, n2) := by
            rw [wrap_succ (show c < 9223372036854775807 by omega)]
            exact Ev.step (fun k => by rw [impl_nester_many.f]) q2
          refine ⟨a2, m2, n2, one_nest x hx a h ho m n (one_body x a (opx x a) c m n m1 n1 b _ q1 ?_)⟩
          rw [hm]
          refine Ev.step (fun k => by rw [impl_nester_one.j1]) ?_
          simp only [if_true]
          refine Ev.bind q2' ?_
          exact one_fail _ _ _ _ _ _ _ _ _
    · -- no middle
      rw [Bool.not_eq_true] at hm
      have hm2 : opx x a = 2 → isB x c 3 = false := by
        intro e2
        rw [e2] at hm
        simpa using hm
      have hm8 : opx x a = 8 → isB x c 9 = false := by
        intro e8
        rw [e8] at hm
        simpa using hm
      by_cases h5 : isB x c 4 = true ∧ opx x a ≠ 8
      · have hcl := (isB_lt h5.1).1
        have ho' : opx x a = 2 ∨ opx x a = 5 := by omega
        refine .inl ⟨-1, c, b, [], by omega, hcl, ⟨h5.1, .inl ⟨ho', rfl, rfl, hn⟩⟩, ?_, fun m n => ?_⟩
        · refine Ev.step (fun k => by rw [spec_l3End.f]) ?_
          refine Ev.bind (hs _ k1) ?_
          simp only [if_pos p0, if_pos p1, hop, specIs_eq x hx, Option.bind_some, h5.1, if_true]
          rcases ho' with e2 | e2
          · simp only [e2, if_neg (show ¬ (2 : Int) = 5 by decide), if_true]; exact Ev.now _
          · simp only [e2, if_true]; exact Ev.now _
        · obtain ⟨m1, n1, q1⟩ := kf m n
          refine one_nest x hx a h ho m n (one_body x a (opx x a) c m n m1 n1 b _ q1 ?_)
          rw [hm]
          refine Ev.step (fun k => by rw [impl_nester_one.j1]) ?_
          simp only [Bool.false_eq_true, if_false]
          exact one_end _ x hx _ c m1 n1 _ b [] h5.1 (fun e8 => absurd e8 h5.2)
      · refine .inr ⟨?_, fun m n => ?_⟩
        · refine Ev.step (fun k => by rw [spec_l3End.f]) ?_
          refine Ev.bind (hs _ k1) ?_
          simp only [if_pos p0, if_pos p1, hop, specIs_eq x hx, Option.bind_some]
          rcases ho with e2 | e2 | e2
          · have h4 : isB x c 4 = false := by
              rw [← Bool.not_eq_true]; intro hh; exact h5 ⟨hh, by omega⟩
            simp only [e2, if_neg (show ¬ (2 : Int) = 5 by decide), if_true, h4, hm2 e2, Bool.false_eq_true, if_false]; exact Ev.now _
          · have h4 : isB x c 4 = false := by
              rw [← Bool.not_eq_true]; intro hh; exact h5 ⟨hh, by omega⟩
            simp only [e2, if_true, h4, Bool.false_eq_true, if_false]; exact Ev.now _
          · simp only [e2, if_neg (show ¬ (8 : Int) = 5 by decide), if_neg (show ¬ (8 : Int) = 2 by decide), if_true, hm8 e2, Bool.false_eq_true, if_false]; exact Ev.now _
        · obtain ⟨m1, n1, q1⟩ := kf m n
          refine ⟨(c : Int), m1, n1, one_nest x hx a h ho m n (one_body x a (opx x a) c m n m1 n1 b _ q1 ?_)⟩
          rw [hm]
          refine Ev.step (fun k => by rw [impl_nester_one.j1]) ?_
          simp only [Bool.false_eq_true, if_false]
          refine one_noend _ x _ c m1 n1 _ b [] ?_
          by_cases e8 : opx x a = 8
          · exact .inr ⟨e8, by decide⟩
          · left
            rw [← Bool.not_eq_true]; intro hh; exact h5 ⟨hh, e8⟩
  · -- the body is not well nested
    refine .inr ⟨?_, fun m n => ?_⟩
    · refine Ev.step (fun k => by rw [spec_l3End.f]) ?_
      refine Ev.bind (hs _ k1) ?_
      simp only [if_pos p0, if_pos p1, hop, specIs_neg x hx, Option.bind_some, Bool.false_eq_true, if_false]
      rcases ho with e2 | e2 | e2
      · simp only [e2, if_neg (show ¬ (2 : Int) = 5 by decide), if_true]; exact Ev.now _
      · simp only [e2, if_true]; exact Ev.now _
      · simp only [e2, if_neg (show ¬ (8 : Int) = 5 by decide), if_neg (show ¬ (8 : Int) = 2 by decide), if_true]; exact Ev.now _
    · obtain ⟨a2, m2, n2, q2⟩ := k2 [] m n (by simp; omega)
      exact ⟨a2, m2, n2, one_nest x hx a h ho m n (one_nobody x a _ m n _ _ _ _ _ (Ev.step (fun k => by rw [impl_nester_many.f]) q2))⟩
theorem many_one (x : List S42) (a : Nat) (pre : List S71) (hp : pre.length ≤ 2000) (m n : Int) (b o : List S71) (e : Nat) (m1 n1 : Int) (k1 : Ev (fun k => impl_nester_one.f k x (a : Int) m n) ((a : Int), b, o, true, (e : Int), m1, n1)) {r : List S71 × Bool × Int × Int × Int} (k : Ev (fun k => impl_nester_many.l0 k (pre ++ [⟨(a : Int), b, o⟩]) x (e : Int) m1 n1) r) : Ev (fun k => impl_nester_many.j1 k pre true x (a : Int) m n) r := by
  refine Ev.step (fun k => by rw [impl_nester_many.j1]) ?_
  simp only [if_true]
  refine Ev.bind k1 ?_
  simp only [if_true, if_pos (show pre.length < 2513169434916 by omega)]
  exact k
theorem many_none (x : List S42) (a : Nat) (pre : List S71) (m n a1 m1 n1 : Int) (k1 : Ev (fun k => impl_nester_one.f k x (a : Int) m n) (0, [], [], false, a1, m1, n1)) : Ev (fun k => impl_nester_many.j1 k pre true x (a : Int) m n) ([], false, a1, m1, n1) := by
  refine Ev.step (fun k => by rw [impl_nester_many.j1]) ?_
  simp only [if_true]
  refine Ev.bind k1 ?_
  simp only [Bool.false_eq_true, if_false]
  exact Ev.now _
theorem blk_all (x : List S42) (hx : x.length ≤ 1000) (d : Nat) : ∀ a : Nat, a + d = x.length → Blk x a := by
  induction d using Nat.strongRecOn with
  | _ d ih =>
  intro a ha
  have ih' : ∀ a', a < a' → a' ≤ x.length → Blk x a' := fun a' h1 h2 => ih (x.length - a') (by omega) a' (by omega)
  by_cases hl : x.length ≤ a
  · exact .inl ⟨a, [], by omega, .nil (.inl hl), l3B_end x a hl, fun pre m n _ => ⟨m, n, by rw [List.append_nil]; exact many_stop x a (.inl hl) pre m n⟩⟩
  have h : a < x.length := by omega
  by_cases hs : opx x a = 3 ∨ opx x a = 4 ∨ opx x a = 9
  · exact .inl ⟨a, [], by omega, .nil (.inr hs), l3B_stop x a h hs, fun pre m n _ => ⟨m, n, by rw [List.append_nil]; exact many_stop x a (.inr hs) pre m n⟩⟩
  by_cases hn : opx x a = 2 ∨ opx x a = 5 ∨ opx x a = 8
  · rcases en_of x hx a h hn ih' with ⟨mid, e, b, o, hae, hel, hnd, k1, k2⟩ | ⟨k1, k2⟩
    · have nst : ∀ {e' : Nat} {l : List S71}, Nst x (e + 1) e' l → Nst x a e' (⟨(a : Int), b, o⟩ :: l) := by
        intro e' l hr
        obtain ⟨h4, hh⟩ := hnd
        rcases hh with ⟨ho, _, rfl, hb⟩ | ⟨c, _, ho, hb, hm⟩
        · exact .one h ho hb h4 hr
        · exact .two h ho hb hm h4 hr
      rcases ih' (e + 1) (by omega) (by omega) with ⟨e', l, he', hl', j1, j2⟩ | ⟨j1, j2⟩
      · refine .inl ⟨e', _, he', nst hl', l3B_nest x hx a h hn (by omega) k1 j1, fun pre m n hp => ?_⟩
        obtain ⟨m', n', q⟩ := j2 (pre ++ [⟨(a : Int), b, o⟩]) mid (e : Int) (by simp; omega)
        refine ⟨m', n', many_go x a h (by omega) (by omega) (by omega) pre m n (many_one x a pre (by omega) m n b o (e + 1) _ _ (k2 m n) ?_)⟩
        rw [List.append_assoc] at q
        exact q
      · refine .inr ⟨l3B_nest x hx a h hn (by omega) k1 j1, fun pre m n hp => ?_⟩
        obtain ⟨a', m', n', q⟩ := j2 (pre ++ [⟨(a : Int), b, o⟩]) mid (e : Int) (by simp; omega)
        exact ⟨a', m', n', many_go x a h (by omega) (by omega) (by omega) pre m n (many_one x a pre (by omega) m n b o (e + 1) _ _ (k2 m n) q)⟩
    · refine .inr ⟨l3B_fail x a h hn k1, fun pre m n hp => ?_⟩
      obtain ⟨a', m', n', q⟩ := k2 m n
      exact ⟨a', m', n', many_go x a h (by omega) (by omega) (by omega) pre m n (many_none x a pre m n _ _ _ q)⟩
  · have ho : opx x a ≠ 2 ∧ opx x a ≠ 3 ∧ opx x a ≠ 4 ∧ opx x a ≠ 5 ∧ opx x a ≠ 8 ∧ opx x a ≠ 9 := by omega
    have q1 := fun m n => one_leaf x hx a h ⟨ho.1, ho.2.2.2.1, ho.2.2.2.2.1⟩ m n
    rcases ih' (a + 1) (by omega) (by omega) with ⟨e', l, he', hl', j1, j2⟩ | ⟨j1, j2⟩
    · refine .inl ⟨e', _, he', .leaf h ho hl', l3B_leaf x hx a h ho j1, fun pre m n hp => ?_⟩
      obtain ⟨m', n', q⟩ := j2 (pre ++ [⟨(a : Int), [], []⟩]) m n (by simp; omega)
      refine ⟨m', n', many_go x a h ho.2.1 ho.2.2.1 ho.2.2.2.2.2 pre m n (many_one x a pre (by omega) m n [] [] (a + 1) _ _ (q1 m n) ?_)⟩
      rw [List.append_assoc] at q
      exact q
    · refine .inr ⟨l3B_leaf x hx a h ho j1, fun pre m n hp => ?_⟩
      obtain ⟨a', m', n', q⟩ := j2 (pre ++ [⟨(a : Int), [], []⟩]) m n (by simp; omega)
      exact ⟨a', m', n', many_go x a h ho.2.1 ho.2.2.1 ho.2.2.2.2.2 pre m n (many_one x a pre (by omega) m n [] [] (a + 1) _ _ (q1 m n) q)⟩
theorem en_all (x : List S42) (hx : x.length ≤ 1000) (a : Nat) (h : a < x.length) (ho : opx x a = 2 ∨ opx x a = 5 ∨ opx x a = 8) : En x a := en_of x hx a h ho (fun a' _ h2 => blk_all x hx (x.length - a') a' (by omega))

def tmI (s : S100) : Tm := ⟨s.f0, s.f1⟩
theorem tmI_inj {a b : S100} (h : tmI a = tmI b) : a = b := by
  cases a; cases b; simp only [tmI, Tm.mk.injEq] at h; obtain ⟨h1, h2⟩ := h; subst h1; subst h2; rfl
theorem rdTm_drop (l : List S100) (i : Nat) (h : i < l.length) : l.drop i = rd_T100 l (i : Int) :: l.drop (i + 1) := by
  simp only [rd_T100, Int.toNat_natCast, List.getD_eq_getElem?_getD, List.getElem?_eq_getElem h, Option.getD_some]
  exact List.drop_eq_getElem_cons h
theorem rdTm_at (l : List S100) (i : Nat) (h : i < l.length) : rd_T100 l (i : Int) = l[i] := by
  simp only [rd_T100, Int.toNat_natCast, List.getD_eq_getElem?_getD, List.getElem?_eq_getElem h, Option.getD_some]

def tmL (s : S102) : S100 := ⟨s.f0, s.f1⟩
theorem rdTl_at (l : List S102) (i : Nat) (h : i < l.length) : rd_T102 l (i : Int) = l[i] := by
  simp only [rd_T102, Int.toNat_natCast, List.getD_eq_getElem?_getD, List.getElem?_eq_getElem h, Option.getD_some]
theorem szTermS_eq (l : List S102) (n : Int) (h0 : 0 ≤ n) (h1 : n ≤ 1048576) (hl : l.length ≤ 9223372036854775807) : laws_szTermS.f l n = some (if n - (l.length : Int) < 0 then -1 else n - (l.length : Int)) := by
  have hw : wrap64 (n - (l.length : Int)) = n - (l.length : Int) := wrap_id (by omega) (by omega)
  simp only [laws_szTermS.f, hw]
  split <;> rfl
theorem toTermS_l (l : List S102) (hl : l.length ≤ 1048576) (d : Nat) : ∀ (i : Nat) (x : List S100), i + d = l.length → x.length = l.length → (∀ j, j < i → x[j]? = (l.map tmL)[j]?) → Ev (fun k => laws_toTermS.l0 k l x (i : Int)) (l.map tmL) := by
  induction d with
  | zero =>
    intro i x hi hx ht
    refine Ev.step (fun k => by rw [laws_toTermS.l0]) ?_
    simp only [if_neg (show ¬ (i : Int) < (l.length : Int) by omega)]
    obtain rfl : x = l.map tmL := ext_at (by simpa using hx) (fun j hj => ht j (by simp at hj; omega))
    exact Ev.now _
  | succ d ih =>
    intro i x hi hx ht
    refine Ev.step (fun k => by rw [laws_toTermS.l0]) ?_
    simp only [if_pos (show (i : Int) < (l.length : Int) by omega), if_pos (show 0 ≤ (i : Int) by omega), if_pos (show (i : Int) < (x.length : Int) by omega), wrap_succ (show i < 9223372036854775807 by omega), Int.toNat_natCast, laws_toTerm.f, Option.bind_some]
    refine ih (i + 1) _ (by omega) (by simpa using hx) (fun j hj => ?_)
    rw [List.getElem?_set]
    by_cases e : i = j
    · subst e
      rw [if_pos rfl, if_pos (by omega), rdTl_at l i (by omega), List.getElem?_map, List.getElem?_eq_getElem (show i < l.length by omega)]
      rfl
    · rw [if_neg e]; exact ht j (by omega)
theorem toTermS_ev (l : List S102) (hl : l.length ≤ 1048576) : Ev (fun k => laws_toTermS.f k l) (l.map tmL) := by
  simp only [laws_toTermS.f, if_pos (show 0 ≤ (l.length : Int) by omega), Int.toNat_natCast, if_pos (show l.length ≤ 17592186044416 by omega)]
  exact toTermS_l l hl l.length 0 _ (by omega) (by simp) (fun j hj => by omega)
theorem eqTermS_l (a : List S100) (ha : a.length ≤ 9223372036854775807) (d : Nat) : ∀ (i : Nat), i + d = a.length → Ev (fun k => laws_eqTermS.l0 k a a (i : Int)) true := by
  induction d with
  | zero =>
    intro i hi
    refine Ev.step (fun k => by rw [laws_eqTermS.l0]) ?_
    simp only [if_neg (show ¬ (i : Int) < (a.length : Int) by omega)]
    exact Ev.now _
  | succ d ih =>
    intro i hi
    refine Ev.step (fun k => by rw [laws_eqTermS.l0]) ?_
    simp only [if_pos (show (i : Int) < (a.length : Int) by omega), if_pos (show 0 ≤ (i : Int) by omega), wrap_succ (show i < 9223372036854775807 by omega), laws_eqTerm.f, if_true, Option.bind_some]
    exact ih (i + 1) (by omega)
theorem eqTermS_same (a : List S100) (ha : a.length ≤ 9223372036854775807) : Ev (fun k => laws_eqTermS.f k a a) true := by
  simp only [laws_eqTermS.f, if_true]
  exact eqTermS_l a ha a.length 0 (by omega)

theorem rdSt_at (l : List S42) (i : Nat) (h : i < l.length) : rd_T42 l (i : Int) = l[i] := by
  simp only [rd_T42, Int.toNat_natCast, List.getD_eq_getElem?_getD, List.getElem?_eq_getElem h, Option.getD_some]
theorem rdSl_at (l : List S64) (i : Nat) (h : i < l.length) : rd_T64 l (i : Int) = l[i] := by
  simp only [rd_T64, Int.toNat_natCast, List.getD_eq_getElem?_getD, List.getElem?_eq_getElem h, Option.getD_some]
def stL (s : S64) : S42 := ⟨s.f0, s.f1, s.f2.map tmL, s.f3.map tmL⟩
def okSt (s : S64) : Prop := s.f2.length ≤ 1048576 ∧ s.f3.length ≤ 1048576
theorem szStmt_ex (a b : Int) (l2 l3 : List S102) (n : Int) (h0 : 0 ≤ n) (h1 : n ≤ 1048576) (hl2 : l2.length ≤ 9223372036854775807) (hl3 : l3.length ≤ 9223372036854775807) :
    ∃ r, laws_szStmt.f a b l2 l3 n = some r ∧ (r < 0 ∨ 0 ≤ r ∧ r ≤ n ∧ l2.length ≤ 1048576 ∧ l3.length ≤ 1048576) := by
  simp only [laws_szStmt.f, szTermS_eq l2 n h0 h1 hl2, Option.bind_some]
  by_cases c : n - (l2.length : Int) < 0
  · simp only [if_pos c, if_pos (show (-1 : Int) < 0 by decide)]
    exact ⟨_, rfl, .inl (by decide)⟩
  simp only [if_neg c, szTermS_eq l3 (n - (l2.length : Int)) (by omega) (by omega) hl3, Option.bind_some]
  by_cases c3 : n - (l2.length : Int) - (l3.length : Int) < 0
  · simp only [if_pos c3, if_pos (show (-1 : Int) < 0 by decide)]
    exact ⟨_, rfl, .inl (by decide)⟩
  · simp only [if_neg c3]
    exact ⟨_, rfl, .inr ⟨by omega, by omega, by omega, by omega⟩⟩
theorem szStmtS_l (l : List S64) (hl : l.length ≤ 1048576) (hq : ∀ s ∈ l, s.f2.length ≤ 9223372036854775807 ∧ s.f3.length ≤ 9223372036854775807) (d : Nat) : ∀ (i : Nat) (n : Int), i + d = l.length → 0 ≤ n → n ≤ 1048576 → ∃ r, Ev (fun k => laws_szStmtS.l0 k l n (i : Int)) r ∧ (r < 0 ∨ 0 ≤ r ∧ r ≤ n ∧ ∀ s ∈ l.drop i, okSt s) := by
  induction d with
  | zero =>
    intro i n hi h0 h1
    refine ⟨n, Ev.step (fun k => by rw [laws_szStmtS.l0]) ?_, .inr ⟨h0, by omega, ?_⟩⟩
    · simp only [if_neg (show ¬ (i : Int) < (l.length : Int) by omega)]
      exact Ev.now _
    · rw [List.drop_eq_nil_of_le (by omega)]; simp
  | succ d ih =>
    intro i n hi h0 h1
    have hil : i < l.length := by omega
    have hm : l[i] ∈ l := List.getElem_mem _
    obtain ⟨t, et, ht⟩ := szStmt_ex l[i].f0 l[i].f1 l[i].f2 l[i].f3 n h0 h1 (hq _ hm).1 (hq _ hm).2
    by_cases c : t < 0
    · refine ⟨-1, Ev.step (fun k => by rw [laws_szStmtS.l0]) ?_, .inl (by decide)⟩
      simp only [if_pos (show (i : Int) < (l.length : Int) by omega), if_pos (show 0 ≤ (i : Int) by omega), rdSl_at l i hil, et, Option.bind_some, if_pos c]
      exact Ev.now _
    · have ht' : 0 ≤ t ∧ t ≤ n ∧ l[i].f2.length ≤ 1048576 ∧ l[i].f3.length ≤ 1048576 := by
        rcases ht with h | h
        · exact absurd h c
        · exact h
      obtain ⟨r, er, hr⟩ := ih (i + 1) t (by omega) ht'.1 (by omega)
      refine ⟨r, Ev.step (fun k => by rw [laws_szStmtS.l0]) ?_, ?_⟩
      · simp only [if_pos (show (i : Int) < (l.length : Int) by omega), if_pos (show 0 ≤ (i : Int) by omega), rdSl_at l i hil, et, Option.bind_some, if_neg c, wrap_succ (show i < 9223372036854775807 by omega)]
        exact er
      · rcases hr with h | ⟨h2, h3, h4⟩
        · exact .inl h
        · refine .inr ⟨h2, by omega, fun s hs => ?_⟩
          rw [List.drop_eq_getElem_cons hil, List.mem_cons] at hs
          rcases hs with rfl | hs
          · exact ht'.2.2
          · exact h4 s hs
theorem szStmtS_ex (l : List S64) (n : Int) (h0 : 0 ≤ n) (h1 : n ≤ 1048576) (hl : l.length ≤ 9223372036854775807) (hq : ∀ s ∈ l, s.f2.length ≤ 9223372036854775807 ∧ s.f3.length ≤ 9223372036854775807) :
    ∃ r, Ev (fun k => laws_szStmtS.f k l n) r ∧ (r < 0 ∨ 0 ≤ r ∧ r ≤ n ∧ l.length ≤ 1048576 ∧ ∀ s ∈ l, okSt s) := by
  simp only [laws_szStmtS.f, wrap_id (show -9223372036854775808 ≤ n - (l.length : Int) by omega) (show n - (l.length : Int) ≤ 9223372036854775807 by omega)]
  by_cases c : n - (l.length : Int) < 0
  · simp only [if_pos c]
    exact ⟨-1, Ev.now _, .inl (by decide)⟩
  · simp only [if_neg c]
    obtain ⟨r, er, hr⟩ := szStmtS_l l (by omega) hq l.length 0 (n - (l.length : Int)) (by omega) (by omega) (by omega)
    refine ⟨r, er, ?_⟩
    rcases hr with h | ⟨h2, h3, h4⟩
    · exact .inl h
    · exact .inr ⟨h2, by omega, by omega, by simpa using h4⟩
theorem toStmt_ev (s : S64) (h : okSt s) : Ev (fun k => laws_toStmt.f k s.f0 s.f1 s.f2 s.f3) (s.f0, s.f1, s.f2.map tmL, s.f3.map tmL) := by
  simp only [laws_toStmt.f]
  refine Ev.bind (toTermS_ev _ h.1) ?_
  refine Ev.bind (toTermS_ev _ h.2) ?_
  exact Ev.now _
theorem toStmtS_l (l : List S64) (hl : l.length ≤ 1048576) (hq : ∀ s ∈ l, okSt s) (d : Nat) : ∀ (i : Nat) (x : List S42), i + d = l.length → x.length = l.length → (∀ j, j < i → x[j]? = (l.map stL)[j]?) → Ev (fun k => laws_toStmtS.l0 k l x (i : Int)) (l.map stL) := by
  induction d with
  | zero =>
    intro i x hi hx ht
    refine Ev.step (fun k => by rw [laws_toStmtS.l0]) ?_
    simp only [if_neg (show ¬ (i : Int) < (l.length : Int) by omega)]
    obtain rfl : x = l.map stL := ext_at (by simpa using hx) (fun j hj => ht j (by simp at hj; omega))
    exact Ev.now _
  | succ d ih =>
    intro i x hi hx ht
    have hil : i < l.length := by omega
    refine Ev.step (fun k => by rw [laws_toStmtS.l0]) ?_
    simp only [if_pos (show (i : Int) < (l.length : Int) by omega), if_pos (show 0 ≤ (i : Int) by omega), rdSl_at l i hil]
    refine Ev.bind (toStmt_ev _ (hq _ (List.getElem_mem hil))) ?_
    simp only [if_pos (show (i : Int) < (x.length : Int) by omega), wrap_succ (show i < 9223372036854775807 by omega), Int.toNat_natCast]
    refine ih (i + 1) _ (by omega) (by simpa using hx) (fun j hj => ?_)
    rw [List.getElem?_set]
    by_cases e : i = j
    · subst e
      rw [if_pos rfl, if_pos (by omega), List.getElem?_map, List.getElem?_eq_getElem hil]
      rfl
    · rw [if_neg e]; exact ht j (by omega)
theorem toStmtS_ev (l : List S64) (hl : l.length ≤ 1048576) (hq : ∀ s ∈ l, okSt s) : Ev (fun k => laws_toStmtS.f k l) (l.map stL) := by
  simp only [laws_toStmtS.f, if_pos (show 0 ≤ (l.length : Int) by omega), Int.toNat_natCast, if_pos (show l.length ≤ 4398046511104 by omega)]
  exact toStmtS_l l hl hq l.length 0 _ (by omega) (by simp) (fun j hj => by omega)
theorem eqStmt_same (a b : Int) (l m : List S100) (hl : l.length ≤ 1048576) (hm : m.length ≤ 1048576) : Ev (fun k => laws_eqStmt.f k a b l m a b l m) true := by
  simp only [laws_eqStmt.f, if_true]
  refine Ev.bind (eqTermS_same l (by omega)) ?_
  simp only [if_true]
  refine Ev.bind (eqTermS_same m (by omega)) ?_
  simp only [if_true]
  exact Ev.now _
theorem eqStmtS_l (x : List S42) (hx : x.length ≤ 1048576) (hq : ∀ s ∈ x, s.f2.length ≤ 1048576 ∧ s.f3.length ≤ 1048576) (d : Nat) : ∀ (i : Nat), i + d = x.length → Ev (fun k => laws_eqStmtS.l0 k x x (i : Int)) true := by
  induction d with
  | zero =>
    intro i hi
    refine Ev.step (fun k => by rw [laws_eqStmtS.l0]) ?_
    simp only [if_neg (show ¬ (i : Int) < (x.length : Int) by omega)]
    exact Ev.now _
  | succ d ih =>
    intro i hi
    have hil : i < x.length := by omega
    have hm := hq _ (List.getElem_mem hil)
    refine Ev.step (fun k => by rw [laws_eqStmtS.l0]) ?_
    simp only [if_pos (show (i : Int) < (x.length : Int) by omega), if_pos (show 0 ≤ (i : Int) by omega), rdSt_at x i hil]
    refine Ev.bind (eqStmt_same _ _ _ _ hm.1 hm.2) ?_
    simp only [if_true, wrap_succ (show i < 9223372036854775807 by omega)]
    exact ih (i + 1) (by omega)
theorem eqStmtS_same (x : List S42) (hx : x.length ≤ 1048576) (hq : ∀ s ∈ x, s.f2.length ≤ 1048576 ∧ s.f3.length ≤ 1048576) : Ev (fun k => laws_eqStmtS.f k x x) true := by
  simp only [laws_eqStmtS.f, if_true]
  exact eqStmtS_l x hx hq x.length 0 (by omega)
theorem stL_ok {l : List S64} (hq : ∀ s ∈ l, okSt s) : ∀ s ∈ l.map stL, s.f2.length ≤ 1048576 ∧ s.f3.length ≤ 1048576 := by
  intro s hs
  obtain ⟨t, ht, rfl⟩ := List.mem_map.1 hs
  have := hq t ht
  simpa [stL, okSt] using this

def Want_FnExactEndOf : Prop := ∀ (l0 : List (S64)) (a1 : Int), (l0.length ≤ 9223372036854775807 ∧ ∀ u1 ∈ l0, ((Lit.int .i64 u1.f0).wf = true ∧ ((Lit.int .i64 u1.f1).wf = true ∧ ((u1.f2.length ≤ 9223372036854775807 ∧ ∀ u2 ∈ u1.f2, ((Lit.int .i64 u2.f0).wf = true ∧ (Lit.int .i64 u2.f1).wf = true)) ∧ (u1.f3.length ≤ 9223372036854775807 ∧ ∀ u3 ∈ u1.f3, ((Lit.int .i64 u3.f0).wf = true ∧ (Lit.int .i64 u3.f1).wf = true)))))) → (Lit.int .i64 a1).wf = true → ∃ k, laws_FnExactEndOf.f k l0 a1 = some true
theorem specEnd_other (x : List S42) (hx : x.length ≤ 1000) (a : Nat) (h : a < x.length) (ho : opx x a ≠ 2 ∧ opx x a ≠ 5 ∧ opx x a ≠ 8) : Ev (fun k => spec_l3End.f k x (a : Int)) (-1, -1) := by
  have key : ∀ t : Int, Ev (fun k => spec_l3Block.l0 k x ((a + 1 : Nat) : Int)) t → Ev (fun k => spec_l3End.f k x (a : Int)) (-1, -1) := by
    intro t k1
    refine Ev.step (fun k => by rw [spec_l3End.f]) ?_
    refine Ev.bind (l3E_step x a h hx k1) ?_
    unfold opx at ho
    simp only [if_pos (show 0 ≤ (a : Int) by omega), if_pos (show (a : Int) < (x.length : Int) by omega), if_neg ho.1, if_neg ho.2.1, if_neg ho.2.2]
    exact Ev.now _
  rcases blk_all x hx (x.length - (a + 1)) (a + 1) (by omega) with ⟨e, l, _, _, k1, _⟩ | ⟨k1, _⟩
  · exact key _ k1
  · exact key _ k1
theorem implEnd_no (x : List S42) (a : Int) : Ev (fun k => impl_EndOf.j0 k x a true) (-1, -1) := by
  refine Ev.step (fun k => by rw [impl_EndOf.j0]) ?_
  simp only [if_true]
  exact Ev.now _
theorem implEnd_go (x : List S42) (a : Nat) (h : a < x.length) (b : Bool) (hb : b = false ↔ (opx x a = 2 ∨ opx x a = 5 ∨ opx x a = 8)) {r : Int × Int} (k : Ev (fun k => impl_EndOf.j1 k x (a : Int) b) r) : Ev (fun k => impl_EndOf.j0 k x (a : Int) false) r := by
  unfold opx at hb
  refine Ev.step (fun k => by rw [impl_EndOf.j0]) ?_
  simp only [Bool.false_eq_true, if_false, if_pos (show 0 ≤ (a : Int) by omega), if_pos (show (a : Int) < (x.length : Int) by omega)]
  generalize (rd_T42 x (a : Int)).f0 = op at hb
  by_cases c2 : op = 2
  · subst c2
    obtain rfl : b = false := hb.2 (by simp)
    simp only [if_true]; exact k
  by_cases c5 : op = 5
  · subst c5
    obtain rfl : b = false := hb.2 (by simp)
    simp only [if_neg c2, if_true]; exact k
  simp only [if_neg c2, if_neg c5]
  by_cases c8 : op = 8
  · subst c8
    obtain rfl : b = false := hb.2 (by simp)
    simp only [bne_self_eq_false]; exact k
  · have : b = true := by
      rw [← Bool.not_eq_false]; intro hh
      have := hb.1 hh
      omega
    subst this
    simp only [bne_iff_ne.2 c8]; exact k
theorem endOf_ex (x : List S42) (hx : x.length ≤ 1048576) (a : Int) : ∃ r : Int × Int, Ev (fun k => spec_EndOf.f k x a) r ∧ Ev (fun k => impl_EndOf.f k x a) r := by
  have hw : wrap64 ((x.length : Int) - 1) = (x.length : Int) - 1 := wrap_id (by omega) (by omega)
  by_cases h40 : (x.length : Int) > 40
  · refine ⟨(-1, -1), ?_, ?_⟩
    · simp only [spec_EndOf.f, l1In_eq, Option.bind_some, if_pos h40]
      split <;> exact Ev.now _
    · simp only [impl_EndOf.f, if_pos h40]
      exact implEnd_no x a
  have hx' : x.length ≤ 1000 := by omega
  by_cases h0 : a < 0
  · refine ⟨(-1, -1), ?_, ?_⟩
    · simp only [spec_EndOf.f, l1In_eq, Option.bind_some, hw, decide_eq_false (show ¬ 0 ≤ a by omega), Bool.false_and, Bool.false_eq_true, if_false]
      exact Ev.now _
    · simp only [impl_EndOf.f, if_neg h40, if_pos h0]
      exact implEnd_no x a
  by_cases h1 : a ≥ (x.length : Int)
  · refine ⟨(-1, -1), ?_, ?_⟩
    · simp only [spec_EndOf.f, l1In_eq, Option.bind_some, hw, decide_eq_false (show ¬ a ≤ (x.length : Int) - 1 by omega), Bool.and_false, Bool.false_eq_true, if_false]
      exact Ev.now _
    · simp only [impl_EndOf.f, if_neg h40, if_neg h0, decide_eq_true h1]
      exact implEnd_no x a
  obtain ⟨i, rfl⟩ := Int.eq_ofNat_of_zero_le (show 0 ≤ a by omega)
  have hi : i < x.length := by omega
  have hs : ∀ p : Int × Int, Ev (fun k => spec_l3End.f k x (i : Int)) p → Ev (fun k => spec_EndOf.f k x (i : Int)) p := by
    intro p k
    simp only [spec_EndOf.f, l1In_eq, Option.bind_some, hw, decide_eq_true (show 0 ≤ (i : Int) by omega), decide_eq_true (show (i : Int) ≤ (x.length : Int) - 1 by omega), Bool.and_self, if_true, if_neg h40]
    refine Ev.bind k ?_
    exact Ev.now _
  have hp : ∀ p : Int × Int, Ev (fun k => impl_EndOf.j0 k x (i : Int) false) p → Ev (fun k => impl_EndOf.f k x (i : Int)) p := by
    intro p k
    simp only [impl_EndOf.f, if_neg h40, if_neg h0, decide_eq_false h1]
    exact k
  by_cases ho : opx x i = 2 ∨ opx x i = 5 ∨ opx x i = 8
  · rcases en_all x hx' i hi ho with ⟨mid, e, b, o, _, _, _, k1, k2⟩ | ⟨k1, k2⟩
    · refine ⟨(mid, (e : Int)), hs _ k1, hp _ (implEnd_go x i hi false (by simpa using ho) ?_)⟩
      refine Ev.step (fun k => by rw [impl_EndOf.j1]) ?_
      simp only [Bool.false_eq_true, if_false]
      refine Ev.bind (k2 0 0) ?_
      simp only [if_true]
      exact Ev.now _
    · obtain ⟨a', m', n', k2⟩ := k2 0 0
      refine ⟨(-1, -1), hs _ k1, hp _ (implEnd_go x i hi false (by simpa using ho) ?_)⟩
      refine Ev.step (fun k => by rw [impl_EndOf.j1]) ?_
      simp only [Bool.false_eq_true, if_false]
      refine Ev.bind k2 ?_
      simp only [Bool.false_eq_true, if_false]
      exact Ev.now _
  · refine ⟨(-1, -1), hs _ (specEnd_other x hx' i hi (by omega)), hp _ (implEnd_go x i hi true (by simpa using ho) ?_)⟩
    refine Ev.step (fun k => by rw [impl_EndOf.j1]) ?_
    simp only [if_true]
    exact Ev.now _
theorem FnExactEndOf : Want_FnExactEndOf := by
  intro l a hq ha
  refine Ev.rounds ?_
  simp only [laws_FnExactEndOf.f]
  obtain ⟨t, et, ht⟩ := szStmtS_ex l 1048576 (by omega) (by omega) hq.1 (fun s hs => ⟨(hq.2 s hs).2.2.1.1, (hq.2 s hs).2.2.2.1⟩)
  refine Ev.bind et ?_
  by_cases c : t < 0
  · simp only [if_pos c]; exact Ev.now _
  simp only [if_neg c]
  have ht' : l.length ≤ 1048576 ∧ ∀ s ∈ l, okSt s := by
    rcases ht with h | h
    · exact absurd h c
    · exact h.2.2
  have e1 := toStmtS_ev l ht'.1 ht'.2
  have hl : (l.map stL).length ≤ 1048576 := by simpa using ht'.1
  obtain ⟨r, k1, k2⟩ := endOf_ex (l.map stL) hl a
  refine Ev.bind e1 ?_
  refine Ev.bind k1 ?_
  refine Ev.bind e1 ?_
  refine Ev.bind k2 ?_
  simp only [if_true, bne_self_eq_false]
  refine Ev.step (fun k => by rw [laws_FnExactEndOf.j0]) ?_
  simp only [Bool.false_eq_true, if_false]
  refine Ev.bind e1 ?_
  refine Ev.bind (eqStmtS_same _ hl (stL_ok ht'.2)) ?_
  simp only [if_true]
  exact Ev.now _
end Go.Proofs.Ytbjmhdoagjmmcaa.Pure
