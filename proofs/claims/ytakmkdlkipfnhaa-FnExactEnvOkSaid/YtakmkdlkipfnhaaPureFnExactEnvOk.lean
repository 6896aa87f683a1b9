/- EnvOk of the program and of the reference answer alike, for every Prog and Env, and the arguments are left as they were; no condition. -/
import Derived.Test.YtakmkdlkipfnhaaPCoreg1
import Derived.Test.YtakmkdlkipfnhaaPCoreg6
import Derived.Test.YtakmkdlkipfnhaaPCoreg12
import Derived.Test.YtakmkdlkipfnhaaPCoreg13
import Derived.Test.YtakmkdlkipfnhaaPCoreg14
import Derived.Test.YtakmkdlkipfnhaaTerm
import Derived.Test.YtakmkdlkipfnhaaFA
set_option linter.unusedVariables false
set_option linter.unusedSimpArgs false
namespace Go.Proofs.Ytakmkdlkipfnhaa.Pure
open Go.RowKit Go.Proofs.Ytakmkdlkipfnhaa.PCore Go.Proofs.YtakmkdlkipfnhaaW.PrintWords Go.Proofs.YtakmkdlkipfnhaaW.PrintLast Go.Proofs.YtakmkdlkipfnhaaW.PrintMore Go.Proofs.Ytakmkdlkipfnhaa.Bs

theorem rdLI_at (l : List (List Int)) (i : Nat) (h : i < l.length) : rd_L5 l (i : Int) = l[i] := by
  simp only [rd_L5, Int.toNat_natCast, List.getD_eq_getElem?_getD, List.getElem?_eq_getElem h, Option.getD_some]
theorem rdLI_drop (l : List (List Int)) (i : Nat) (h : i < l.length) : l.drop i = rd_L5 l (i : Int) :: l.drop (i + 1) := by
  rw [rdLI_at l i h, List.drop_eq_getElem_cons h]
theorem toInt64SS_l (l : List (List Int)) (hl : l.length ≤ 1048576) (hq : ∀ s ∈ l, s.length ≤ 1048576) (d : Nat) : ∀ (i : Nat) (x : List (List Int)), i + d = l.length → x.length = l.length → (∀ j, j < i → x[j]? = l[j]?) → Ev (fun k => laws_toInt64SS.l0 k l x (i : Int)) l := by
  induction d with
  | zero =>
    intro i x hi hx ht
    refine Ev.step (fun k => by rw [laws_toInt64SS.l0]) ?_
    simp only [if_neg (show ¬ (i : Int) < (l.length : Int) by omega)]
    obtain rfl : x = l := ext_at hx (fun j hj => ht j (by omega))
    exact Ev.now _
  | succ d ih =>
    intro i x hi hx ht
    have hil : i < l.length := by omega
    refine Ev.step (fun k => by rw [laws_toInt64SS.l0]) ?_
    simp only [if_pos (show (i : Int) < (l.length : Int) by omega), if_pos (show 0 ≤ (i : Int) by omega), rdLI_at l i hil]
    refine Ev.bind (toInt64S_ev _ (hq _ (List.getElem_mem hil))) ?_
    simp only [if_pos (show (i : Int) < (x.length : Int) by omega), wrap_succ (show i < 9223372036854775807 by omega), Int.toNat_natCast]
    refine ih (i + 1) _ (by omega) (by simpa using hx) (fun j hj => ?_)
    rw [List.getElem?_set]
    by_cases e : i = j
    · subst e
      rw [if_pos rfl, if_pos (by omega), List.getElem?_eq_getElem hil]
    · rw [if_neg e]; exact ht j (by omega)
theorem toInt64SS_ev (l : List (List Int)) (hl : l.length ≤ 1048576) (hq : ∀ s ∈ l, s.length ≤ 1048576) : Ev (fun k => laws_toInt64SS.f k l) l := by
  simp only [laws_toInt64SS.f, if_pos (show 0 ≤ (l.length : Int) by omega), Int.toNat_natCast, if_pos (show l.length ≤ 11728124029610 by omega)]
  exact toInt64SS_l l hl hq l.length 0 _ (by omega) (by simp) (fun j hj => by omega)
theorem eqInt64SS_l (a b : List (List Int)) (hl : a.length = b.length) (ha : a.length ≤ 9223372036854775807) (hq : ∀ s ∈ a, s.length ≤ 9223372036854775807) (d : Nat) : ∀ (i : Nat), i + d = a.length → Ev (fun k => laws_eqInt64SS.l0 k a b (i : Int)) (decide (a.drop i = b.drop i)) := by
  induction d with
  | zero =>
    intro i hi
    refine Ev.step (fun k => by rw [laws_eqInt64SS.l0]) ?_
    simp only [if_neg (show ¬ (i : Int) < (a.length : Int) by omega)]
    rw [List.drop_of_length_le (show a.length ≤ i by omega), List.drop_of_length_le (show b.length ≤ i by omega)]
    exact (Ev.now _).cast (by simp)
  | succ d ih =>
    intro i hi
    have hil : i < a.length := by omega
    have ih' := ih (i + 1) (by omega)
    refine Ev.step (fun k => by rw [laws_eqInt64SS.l0]) ?_
    rw [rdLI_drop a i hil, rdLI_drop b i (by omega)]
    simp only [if_pos (show (i : Int) < (a.length : Int) by omega), if_pos (show 0 ≤ (i : Int) by omega), if_pos (show (i : Int) < (b.length : Int) by omega), wrap_succ (show i < 9223372036854775807 by omega)]
    have hm := hq _ (List.getElem_mem hil)
    rw [← rdLI_at a i hil] at hm
    refine Ev.bind (eqInt64S_ev _ (rd_L5 b (i : Int)) hm) ?_
    by_cases e : rd_L5 a (i : Int) = rd_L5 b (i : Int)
    · simp only [decide_eq_true e, if_true]
      exact ih'.cast (by simp [e])
    · simp only [decide_eq_false e, Bool.false_eq_true, if_false]
      exact (Ev.now _).cast (by simp [e])
theorem eqInt64SS_ev (a b : List (List Int)) (ha : a.length ≤ 9223372036854775807) (hq : ∀ s ∈ a, s.length ≤ 9223372036854775807) : Ev (fun k => laws_eqInt64SS.f k a b) (decide (a = b)) := by
  simp only [laws_eqInt64SS.f]
  by_cases h : a.length = b.length
  · simp only [if_pos (show (a.length : Int) = (b.length : Int) by omega)]
    exact (eqInt64SS_l a b h ha hq a.length 0 (by omega)).cast (by simp)
  · simp only [if_neg (show ¬ (a.length : Int) = (b.length : Int) by omega)]
    exact (Ev.now _).cast (decide_eq_false (fun e => h (by rw [e]))).symm

def okEn (vs : List Int) (cs : List (List Int)) : Prop := vs.length ≤ 1048576 ∧ cs.length ≤ 1048576 ∧ ∀ l ∈ cs, l.length ≤ 1048576
theorem szInt64SS_l (l : List (List Int)) (hl : l.length ≤ 1048576) (hq : ∀ s ∈ l, s.length ≤ 9223372036854775807) (d : Nat) : ∀ (i : Nat) (n : Int), i + d = l.length → 0 ≤ n → n ≤ 1048576 → ∃ r, Ev (fun k => laws_szInt64SS.l0 k l n (i : Int)) r ∧ (r < 0 ∨ 0 ≤ r ∧ r ≤ n ∧ ∀ s ∈ l.drop i, s.length ≤ 1048576) := by
  induction d with
  | zero =>
    intro i n hi h0 h1
    refine ⟨n, Ev.step (fun k => by rw [laws_szInt64SS.l0]) ?_, .inr ⟨h0, by omega, ?_⟩⟩
    · simp only [if_neg (show ¬ (i : Int) < (l.length : Int) by omega)]
      exact Ev.now _
    · rw [List.drop_eq_nil_of_le (by omega)]; simp
  | succ d ih =>
    intro i n hi h0 h1
    have hil : i < l.length := by omega
    have hm : l[i] ∈ l := List.getElem_mem _
    have et := szInt64S_eq l[i] n h0 h1 (hq _ hm)
    by_cases c : n - (l[i].length : Int) < 0
    · rw [if_pos c] at et
      refine ⟨-1, Ev.step (fun k => by rw [laws_szInt64SS.l0]) ?_, .inl (by decide)⟩
      simp only [if_pos (show (i : Int) < (l.length : Int) by omega), if_pos (show 0 ≤ (i : Int) by omega), rdLI_at l i hil, et, Option.bind_some, if_pos (show (-1 : Int) < 0 by decide)]
      exact Ev.now _
    · rw [if_neg c] at et
      obtain ⟨r, er, hr⟩ := ih (i + 1) (n - (l[i].length : Int)) (by omega) (by omega) (by omega)
      refine ⟨r, Ev.step (fun k => by rw [laws_szInt64SS.l0]) ?_, ?_⟩
      · simp only [if_pos (show (i : Int) < (l.length : Int) by omega), if_pos (show 0 ≤ (i : Int) by omega), rdLI_at l i hil, et, Option.bind_some, if_neg c, wrap_succ (show i < 9223372036854775807 by omega)]
        exact er
      · rcases hr with h | ⟨h2, h3, h4⟩
        · exact .inl h
        · refine .inr ⟨h2, by omega, fun s hs => ?_⟩
          rw [List.drop_eq_getElem_cons hil, List.mem_cons] at hs
          rcases hs with rfl | hs
          · omega
          · exact h4 s hs
theorem szInt64SS_ex (l : List (List Int)) (n : Int) (h0 : 0 ≤ n) (h1 : n ≤ 1048576) (hl : l.length ≤ 9223372036854775807) (hq : ∀ s ∈ l, s.length ≤ 9223372036854775807) :
    ∃ r, Ev (fun k => laws_szInt64SS.f k l n) r ∧ (r < 0 ∨ 0 ≤ r ∧ r ≤ n ∧ l.length ≤ 1048576 ∧ ∀ s ∈ l, s.length ≤ 1048576) := by
  simp only [laws_szInt64SS.f, wrap_id (show -9223372036854775808 ≤ n - (l.length : Int) by omega) (show n - (l.length : Int) ≤ 9223372036854775807 by omega)]
  by_cases c : n - (l.length : Int) < 0
  · simp only [if_pos c]
    exact ⟨-1, Ev.now _, .inl (by decide)⟩
  · simp only [if_neg c]
    obtain ⟨r, er, hr⟩ := szInt64SS_l l (by omega) hq l.length 0 (n - (l.length : Int)) (by omega) (by omega) (by omega)
    refine ⟨r, er, ?_⟩
    rcases hr with h | ⟨h2, h3, h4⟩
    · exact .inl h
    · exact .inr ⟨h2, by omega, by omega, by simpa using h4⟩
theorem szEnv_ex (vs : List Int) (cs : List (List Int)) (n : Int) (h0 : 0 ≤ n) (h1 : n ≤ 1048576) (hv : vs.length ≤ 9223372036854775807) (hl : cs.length ≤ 9223372036854775807) (hq : ∀ s ∈ cs, s.length ≤ 9223372036854775807) :
    ∃ r, Ev (fun k => laws_szEnv.f k vs cs n) r ∧ (r < 0 ∨ 0 ≤ r ∧ r ≤ n ∧ okEn vs cs) := by
  simp only [laws_szEnv.f, szInt64S_eq vs n h0 h1 hv, Option.bind_some]
  by_cases c : n - (vs.length : Int) < 0
  · simp only [if_pos c, if_pos (show (-1 : Int) < 0 by decide)]
    exact ⟨_, Ev.now _, .inl (by decide)⟩
  simp only [if_neg c]
  obtain ⟨r, er, hr⟩ := szInt64SS_ex cs (n - (vs.length : Int)) (by omega) (by omega) hl hq
  by_cases c4 : r < 0
  · refine ⟨-1, Ev.bind er ?_, .inl (by decide)⟩
    simp only [if_pos c4]
    exact Ev.now _
  · refine ⟨r, Ev.bind er ?_, ?_⟩
    · simp only [if_neg c4]
      exact Ev.now _
    · rcases hr with h | ⟨h2, h3, h4, h5⟩
      · exact absurd h c4
      · exact .inr ⟨h2, by omega, by omega, h4, h5⟩
theorem toEnv_ev (vs : List Int) (cs : List (List Int)) (h : okEn vs cs) : Ev (fun k => laws_toEnv.f k vs cs) (vs, cs) := by
  simp only [laws_toEnv.f]
  refine Ev.bind (toInt64S_ev vs h.1) ?_
  refine Ev.bind (toInt64SS_ev cs h.2.1 h.2.2) ?_
  exact Ev.now _
theorem eqEnv_same (vs : List Int) (cs : List (List Int)) (h : okEn vs cs) : Ev (fun k => laws_eqEnv.f k vs cs vs cs) true := by
  have h1 := h.1
  have h2 := h.2.1
  simp only [laws_eqEnv.f]
  refine Ev.bind ((eqInt64S_ev vs vs (by omega)).cast (decide_eq_true rfl)) ?_
  simp only [if_true]
  refine Ev.bind ((eqInt64SS_ev cs cs (by omega) (fun s hs => by have := h.2.2 s hs; omega)).cast (decide_eq_true rfl)) ?_
  simp only [if_true]
  exact Ev.now _

/-- Values from 0 to the greatest. -/
def vals (g : Int) (l : List Int) : Bool := l.all fun v => decide (0 ≤ v) && decide (v ≤ g)
def cellsR (g : Int) : List (List Int) → List Int → Bool
  | [], [] => true
  | l :: ls, u :: us => (decide ((l.length : Int) = u) && vals g l) && cellsR g ls us
  | _, _ => false
theorem cellsR_drop (g : Int) (ls : List (List Int)) (us : List Int) (i : Nat) (h : i < ls.length) (k : i < us.length) : cellsR g (ls.drop i) (us.drop i) = ((decide (((rd_L5 ls (i : Int)).length : Int) = rd us (i : Int)) && vals g (rd_L5 ls (i : Int))) && cellsR g (ls.drop (i + 1)) (us.drop (i + 1))) := by
  rw [rdLI_drop ls i h, drop_rd us i k, cellsR]
theorem cellsR_len (g : Int) : ∀ (ls : List (List Int)) (us : List Int), cellsR g ls us = true → ls.length = us.length
  | [], [], _ => rfl
  | l :: ls, u :: us, h => by
    simp only [cellsR, Bool.and_eq_true] at h
    simp only [List.length_cons, cellsR_len g ls us h.2]
  | [], _ :: _, h => by cases h
  | _ :: _, [], h => by cases h
def envR (n : Nat) (a b : List S106) (t : Int) (c vs : List Int) (cs : List (List Int)) : Bool :=
  decide ((vs.length : Int) = vrs a b t) && (vals (((2 ^ n : Nat) : Int) - 1) vs && (decide (cs.length = c.length) && cellsR (((2 ^ n : Nat) : Int) - 1) cs c))
theorem specVals_l (n : Nat) (hn : n ≤ 8) (l : List Int) (hl : l.length ≤ 1048576) (d : Nat) : ∀ i : Nat, i + d = l.length → Ev (fun k => spec_l5Values.l0 k l ((2 ^ n : Nat) : Int) (i : Int)) (vals (((2 ^ n : Nat) : Int) - 1) (l.drop i)) := by
  have hp := pow8 n hn
  have hp0 := Nat.two_pow_pos n
  induction d with
  | zero =>
    intro i hi
    refine Ev.step (fun k => by rw [spec_l5Values.l0]) ?_
    simp only [if_neg (show ¬ (i : Int) < (l.length : Int) by omega)]
    rw [List.drop_of_length_le (show l.length ≤ i by omega)]
    exact Ev.now _
  | succ d ih =>
    intro i hi
    have ih' := ih (i + 1) (by omega)
    refine Ev.step (fun k => by rw [spec_l5Values.l0]) ?_
    rw [drop_rd l i (by omega)]
    simp only [if_pos (show (i : Int) < (l.length : Int) by omega), if_pos (show 0 ≤ (i : Int) by omega), l1In_eq, Option.bind_some, wrap_succ (show i < 9223372036854775807 by omega), wrap_id (show -9223372036854775808 ≤ ((2 ^ n : Nat) : Int) - 1 by omega) (show ((2 ^ n : Nat) : Int) - 1 ≤ 9223372036854775807 by omega), vals, List.all_cons]
    cases decide (0 ≤ rd l (i : Int)) && decide (rd l (i : Int) ≤ ((2 ^ n : Nat) : Int) - 1)
    · simp only [Bool.false_and, Bool.false_eq_true, if_false]
      exact Ev.now _
    · simp only [Bool.true_and, if_true]
      exact ih'
theorem specVals_ev (n : Nat) (hn : n ≤ 8) (l : List Int) (hl : l.length ≤ 1048576) (m : Int) : Ev (fun k => spec_l5Values.f k l m ((2 ^ n : Nat) : Int)) (decide ((l.length : Int) = m) && vals (((2 ^ n : Nat) : Int) - 1) l) := by
  simp only [spec_l5Values.f]
  by_cases h : (l.length : Int) = m
  · simp only [if_pos h, decide_eq_true h, Bool.true_and]
    exact (specVals_l n hn l hl l.length 0 (by omega)).cast (by rw [List.drop_zero])
  · simp only [if_neg h, decide_eq_false h, Bool.false_and]
    exact Ev.now _
theorem implVals_l (n : Nat) (hn : n ≤ 8) (a b : List S106) (t : Int) (c : List Int) (x : List S114) (l : List Int) (hl : l.length ≤ 1048576) (d : Nat) : ∀ i : Nat, i + d = l.length → Ev (fun k => impl_allValues.l0 k [(⟨(n : Int), a, b, t, c, x⟩ : S36)] l (l.length : Int) (i : Int)) (vals (((2 ^ n : Nat) : Int) - 1) (l.drop i)) := by
  have hp := pow8 n hn
  induction d with
  | zero =>
    intro i hi
    refine Ev.step (fun k => by rw [impl_allValues.l0]) ?_
    simp only [if_neg (show ¬ (i : Int) < (l.length : Int) by omega)]
    rw [List.drop_of_length_le (show l.length ≤ i by omega)]
    exact Ev.now _
  | succ d ih =>
    intro i hi
    have ih' := ih (i + 1) (by omega)
    refine Ev.step (fun k => by rw [impl_allValues.l0]) ?_
    rw [drop_rd l i (by omega)]
    generalize rd l (i : Int) = v
    simp only [if_pos (show (i : Int) < (l.length : Int) by omega), if_pos (show 0 ≤ (i : Int) by omega), greatest_eq n hn, Option.bind_some, wrap_succ (show i < 9223372036854775807 by omega), vals, List.all_cons]
    by_cases c1 : v < 0
    · simp only [if_pos c1, decide_eq_false (show ¬ 0 ≤ v by omega), Bool.false_and]
      exact Ev.now _
    by_cases c2 : v > ((2 ^ n : Nat) : Int) - 1
    · simp only [if_neg c1, if_pos c2, decide_eq_false (show ¬ v ≤ ((2 ^ n : Nat) : Int) - 1 by omega), Bool.and_false, Bool.false_and]
      exact Ev.now _
    · simp only [if_neg c1, if_neg c2, decide_eq_true (show 0 ≤ v by omega), decide_eq_true (show v ≤ ((2 ^ n : Nat) : Int) - 1 by omega), Bool.true_and]
      exact ih'
theorem implVals_ev (n : Nat) (hn : n ≤ 8) (a b : List S106) (t : Int) (c : List Int) (x : List S114) (l : List Int) (hl : l.length ≤ 1048576) : Ev (fun k => impl_allValues.f k [(⟨(n : Int), a, b, t, c, x⟩ : S36)] l) (vals (((2 ^ n : Nat) : Int) - 1) l) := by
  simp only [impl_allValues.f]
  exact (implVals_l n hn a b t c x l hl l.length 0 (by omega)).cast (by rw [List.drop_zero])
theorem specEnv_l (n : Nat) (hn : n ≤ 8) (a b : List S106) (t : Int) (c : List Int) (x : List S114) (vs : List Int) (cs : List (List Int)) (hc : cs.length = c.length) (hq : ∀ s ∈ cs, s.length ≤ 1048576) (h2 : c.length ≤ 2) (d : Nat) : ∀ i : Nat, i + d = cs.length → Ev (fun k => spec_EnvOk.l0 k (i : Int) (n : Int) a b t c x vs cs) (cellsR (((2 ^ n : Nat) : Int) - 1) (cs.drop i) (c.drop i)) := by
  induction d with
  | zero =>
    intro i hi
    refine Ev.step (fun k => by rw [spec_EnvOk.l0]) ?_
    simp only [if_neg (show ¬ (i : Int) < (cs.length : Int) by omega)]
    rw [List.drop_of_length_le (show cs.length ≤ i by omega), List.drop_of_length_le (show c.length ≤ i by omega)]
    exact Ev.now _
  | succ d ih =>
    intro i hi
    have hil : i < cs.length := by omega
    have ih' := ih (i + 1) (by omega)
    have hm := hq _ (List.getElem_mem hil)
    rw [← rdLI_at cs i hil] at hm
    refine Ev.step (fun k => by rw [spec_EnvOk.l0]) ?_
    rw [cellsR_drop _ cs c i hil (by omega)]
    simp only [if_pos (show (i : Int) < (cs.length : Int) by omega), if_pos (show 0 ≤ (i : Int) by omega), if_pos (show (i : Int) < (c.length : Int) by omega), wrap_succ (show i < 9223372036854775807 by omega)]
    refine Ev.bind (l3Size_ev n hn a b t c x) ?_
    refine Ev.bind (specVals_ev n hn _ hm _) ?_
    cases decide (((rd_L5 cs (i : Int)).length : Int) = rd c (i : Int)) && vals (((2 ^ n : Nat) : Int) - 1) (rd_L5 cs (i : Int))
    · simp only [Bool.false_and, Bool.false_eq_true, if_false]
      exact Ev.now _
    · simp only [Bool.true_and, if_true]
      exact ih'
theorem implEnv_l (n : Nat) (hn : n ≤ 8) (a b : List S106) (t : Int) (c : List Int) (x : List S114) (cs : List (List Int)) (hc : cs.length = c.length) (hq : ∀ s ∈ cs, s.length ≤ 1048576) (h2 : c.length ≤ 2) (d : Nat) : ∀ i : Nat, i + d = cs.length → Ev (fun k => impl_envRight.l0 k [(⟨(n : Int), a, b, t, c, x⟩ : S36)] cs (cs.length : Int) (i : Int)) (cellsR (((2 ^ n : Nat) : Int) - 1) (cs.drop i) (c.drop i)) := by
  induction d with
  | zero =>
    intro i hi
    refine Ev.step (fun k => by rw [impl_envRight.l0]) ?_
    simp only [if_neg (show ¬ (i : Int) < (cs.length : Int) by omega)]
    rw [List.drop_of_length_le (show cs.length ≤ i by omega), List.drop_of_length_le (show c.length ≤ i by omega)]
    exact Ev.now _
  | succ d ih =>
    intro i hi
    have hil : i < cs.length := by omega
    have ih' := ih (i + 1) (by omega)
    have hm := hq _ (List.getElem_mem hil)
    rw [← rdLI_at cs i hil] at hm
    refine Ev.step (fun k => by rw [impl_envRight.l0]) ?_
    rw [cellsR_drop _ cs c i hil (by omega)]
    simp only [rdPg, if_pos (show (i : Int) < (cs.length : Int) by omega), if_pos (show 0 ≤ (i : Int) by omega), if_pos (show (i : Int) < (c.length : Int) by omega), wrap_succ (show i < 9223372036854775807 by omega)]
    by_cases e : ((rd_L5 cs (i : Int)).length : Int) = rd c (i : Int)
    · simp only [if_pos e, decide_eq_true e, Bool.true_and]
      refine Ev.bind (implVals_ev n hn a b t c x _ hm) ?_
      cases vals (((2 ^ n : Nat) : Int) - 1) (rd_L5 cs (i : Int))
      · simp only [Bool.false_and, Bool.false_eq_true, if_false]
        exact Ev.now _
      · simp only [Bool.true_and, if_true]
        exact ih'
    · simp only [if_neg e, decide_eq_false e, Bool.false_and]
      exact Ev.now _
theorem rdEn_ (y z : S38) (h : y = z) : rd_T38 [y] 0 = z := h
theorem rdEn (y : S38) : rd_T38 [y] 0 = y := rdEn_ y y (Eq.trans rfl rfl)
theorem implEnvRight_ev {n : Nat} {a b : List S106} {t : Int} {c : List Int} {x : List S114} {l : List S163} {v : Nat} (h : Right n a b t c x l v) (vs : List Int) (cs : List (List Int)) (hv : vs.length ≤ 1048576) (hq : ∀ s ∈ cs, s.length ≤ 1048576) : Ev (fun k => impl_envRight.f k [(⟨(n : Int), a, b, t, c, x⟩ : S36)] [(⟨vs, cs⟩ : S38)]) (envR n a b t c vs cs) := by
  obtain ⟨t0, t6, c2, _, h6⟩ := roomOk_iff.1 h.room
  have jT : Ev (fun k => impl_envRight.j0 k [(⟨(n : Int), a, b, t, c, x⟩ : S36)] [(⟨vs, cs⟩ : S38)] true) false := by
    refine Ev.step (fun k => by rw [impl_envRight.j0]) ?_
    simp only [if_true]; exact Ev.now _
  have ev : impl_varsOf.f [(⟨(n : Int), a, b, t, c, x⟩ : S36)] = some (vrs a b t) := implVars_eq (n : Int) a b t c x h.rt.ha h.rt.hb t0 t6
  simp only [impl_envRight.f, ev, Option.bind_some, rdEn, rdPg, envR]
  by_cases e : (vs.length : Int) = vrs a b t
  · simp only [if_pos e, decide_eq_true e, Bool.true_and]
    refine Ev.bind (implVals_ev n h.rt.hn a b t c x vs hv) ?_
    cases vals (((2 ^ n : Nat) : Int) - 1) vs
    · simp only [Bool.false_and, Bool.false_eq_true, if_false]
      exact jT
    · simp only [Bool.true_and, if_true]
      refine Ev.step (fun k => by rw [impl_envRight.j0]) ?_
      simp only [rdEn]
      by_cases e2 : cs.length = c.length
      · simp only [bne_eq_false_iff_eq.2 (show (cs.length : Int) = (c.length : Int) by omega), Bool.false_eq_true, if_false, decide_eq_true e2, Bool.true_and]
        exact (implEnv_l n h.rt.hn a b t c x cs e2 hq c2 cs.length 0 (by omega)).cast (by simp)
      · simp only [bne_iff_ne.2 (show (cs.length : Int) ≠ (c.length : Int) by omega), if_true, decide_eq_false e2, Bool.false_and]
        exact Ev.now _
  · simp only [if_neg e, decide_eq_false e, Bool.false_and]
    exact jT
theorem envOk_all (w : Int) (a b : List S106) (ha : a.length ≤ 1048576) (hb : b.length ≤ 1048576) (t : Int) (c : List Int) (x : List S114) (hx : x.length ≤ 1048576) (hq : ∀ s ∈ x, s.f2.length ≤ 1048576 ∧ s.f3.length ≤ 1048576) (vs : List Int) (cs : List (List Int)) (hv : vs.length ≤ 1048576) (hcs : ∀ s ∈ cs, s.length ≤ 1048576) :
    ∃ r : Bool, Ev (fun k => spec_EnvOk.f k w a b t c x vs cs) r ∧ Ev (fun k => impl_EnvOk.f k w a b t c x vs cs) r ∧ (r = true → ∃ (n : Nat) (l : List S163) (v : Nat), w = (n : Int) ∧ Right n a b t c x l v ∧ envR n a b t c vs cs = true) := by
  have jT : Ev (fun k => spec_EnvOk.j0 k true w a b t c x vs cs) false := by
    refine Ev.step (fun k => by rw [spec_EnvOk.j0]) ?_
    simp only [if_true]; exact Ev.now _
  obtain ⟨r, k1, k2, k3⟩ := progOk_all w a b ha hb t c x hx hq
  cases r
  · refine ⟨false, ?_, ?_, fun h => by cases h⟩
    · simp only [spec_EnvOk.f]
      refine Ev.bind k1 ?_
      simp only [Bool.false_eq_true, if_false]
      exact jT
    · simp only [impl_EnvOk.f]
      refine Ev.bind k2 ?_
      simp only [Bool.false_eq_true, if_false]
      exact Ev.now _
  · obtain ⟨n, l, v, rfl, h⟩ := k3 rfl
    obtain ⟨t0, t6, c2, _, h6⟩ := roomOk_iff.1 h.room
    refine ⟨envR n a b t c vs cs, ?_, ?_, fun e => ⟨n, l, v, rfl, h, e⟩⟩
    · simp only [spec_EnvOk.f]
      refine Ev.bind k1 ?_
      have ev : spec_l3Vars.f (n : Int) a b t c x = some (vrs a b t) := specVars_eq (n : Int) a b t c x h.rt.ha h.rt.hb t0 t6
      simp only [if_true, ev, Option.bind_some]
      refine Ev.bind (l3Size_ev n h.rt.hn a b t c x) ?_
      refine Ev.bind (specVals_ev n h.rt.hn vs hv _) ?_
      rw [envR, ← Bool.and_assoc]
      cases decide ((vs.length : Int) = vrs a b t) && vals (((2 ^ n : Nat) : Int) - 1) vs
      · simp only [Bool.false_and, Bool.false_eq_true, if_false]
        exact jT
      · simp only [Bool.true_and, if_true]
        refine Ev.step (fun k => by rw [spec_EnvOk.j0]) ?_
        by_cases e2 : cs.length = c.length
        · simp only [bne_eq_false_iff_eq.2 (show (cs.length : Int) = (c.length : Int) by omega), Bool.false_eq_true, if_false, decide_eq_true e2, Bool.true_and]
          exact (specEnv_l n h.rt.hn a b t c x vs cs e2 hcs c2 cs.length 0 (by omega)).cast (by simp)
        · simp only [bne_iff_ne.2 (show (cs.length : Int) ≠ (c.length : Int) by omega), if_true, decide_eq_false e2, Bool.false_and]
          exact Ev.now _
    · simp only [impl_EnvOk.f]
      refine Ev.bind k2 ?_
      simp only [if_true]
      exact Ev.bind (implEnvRight_ev h vs cs hv hcs) (Ev.now _)

def Want_FnExactEnvOk : Prop := ∀ (a0_0 : Int) (l0_1 : List (S128)) (l0_2 : List (S128)) (a0_3 : Int) (l0_4 : List (Int)) (l0_5 : List (S126)) (l1_0 : List (Int)) (l1_1 : List (List (Int))), ((Lit.int .i64 a0_0).wf = true ∧ ((l0_1.length ≤ 9223372036854775807 ∧ ∀ u1 ∈ l0_1, ((Lit.int .i64 u1.f0).wf = true ∧ (Lit.int .i64 u1.f1).wf = true)) ∧ ((l0_2.length ≤ 9223372036854775807 ∧ ∀ u2 ∈ l0_2, ((Lit.int .i64 u2.f0).wf = true ∧ (Lit.int .i64 u2.f1).wf = true)) ∧ ((Lit.int .i64 a0_3).wf = true ∧ ((l0_4.length ≤ 9223372036854775807 ∧ ∀ u3 ∈ l0_4, (Lit.int .i64 u3).wf = true) ∧ (l0_5.length ≤ 9223372036854775807 ∧ ∀ u4 ∈ l0_5, ((Lit.int .i64 u4.f0).wf = true ∧ ((Lit.int .i64 u4.f1).wf = true ∧ ((u4.f2.length ≤ 9223372036854775807 ∧ ∀ u5 ∈ u4.f2, ((Lit.int .i64 u5.f0).wf = true ∧ (Lit.int .i64 u5.f1).wf = true)) ∧ (u4.f3.length ≤ 9223372036854775807 ∧ ∀ u6 ∈ u4.f3, ((Lit.int .i64 u6.f0).wf = true ∧ (Lit.int .i64 u6.f1).wf = true))))))))))) → ((l1_0.length ≤ 9223372036854775807 ∧ ∀ u7 ∈ l1_0, (Lit.int .i64 u7).wf = true) ∧ (l1_1.length ≤ 9223372036854775807 ∧ ∀ u8 ∈ l1_1, (u8.length ≤ 9223372036854775807 ∧ ∀ u9 ∈ u8, (Lit.int .i64 u9).wf = true))) → ∃ k, laws_FnExactEnvOk.f k a0_0 l0_1 l0_2 a0_3 l0_4 l0_5 l1_0 l1_1 = some true
theorem FnExactEnvOk : Want_FnExactEnvOk := by
  intro w a b t c d vs cs ⟨_, ha, hb, _, hc, hd⟩ ⟨hv, hcs⟩
  refine Ev.rounds ?_
  simp only [laws_FnExactEnvOk.f]
  obtain ⟨r, er, hr⟩ := szProg_ex w t a b c d 1048576 (by omega) (by omega) ha.1 hb.1 hc.1 hd.1 (fun s hs => ⟨(hd.2 s hs).2.2.1.1, (hd.2 s hs).2.2.2.1⟩)
  refine Ev.bind er ?_
  by_cases cr : r < 0
  · simp only [if_pos cr]; exact Ev.now _
  simp only [if_neg cr]
  have hr' : 0 ≤ r ∧ r ≤ 1048576 ∧ okPg a b c d := by
    rcases hr with h | h
    · exact absurd h cr
    · exact h
  have ok := hr'.2.2
  obtain ⟨q, eq, hq⟩ := szEnv_ex vs cs r hr'.1 hr'.2.1 hv.1 hcs.1 (fun s hs => (hcs.2 s hs).1)
  refine Ev.bind eq ?_
  by_cases cq : q < 0
  · simp only [if_pos cq]; exact Ev.now _
  simp only [if_neg cq]
  have oe : okEn vs cs := by
    rcases hq with h | h
    · exact absurd h cq
    · exact h.2.2
  have e1 := toProg_ev w t a b c d ok
  have e2 := toEnv_ev vs cs oe
  obtain ⟨v, k1, k2, _⟩ := envOk_all w (a.map inL) (b.map inL) (by simpa using ok.1) (by simpa using ok.2.1) t c (d.map stL) (by simpa using ok.2.2.2.1) (stL_ok ok.2.2.2.2) vs cs oe.1 oe.2.2
  refine Ev.bind e1 ?_
  refine Ev.bind e2 ?_
  refine Ev.bind k1 ?_
  refine Ev.bind e1 ?_
  refine Ev.bind e2 ?_
  refine Ev.bind k2 ?_
  simp only [bne_self_eq_false, Bool.false_eq_true, if_false]
  refine Ev.bind e1 ?_
  refine Ev.bind (eqProg_same w t a b c d ok) ?_
  simp only [if_true]
  refine Ev.bind e2 ?_
  refine Ev.bind (eqEnv_same vs cs oe) ?_
  simp only [if_true]
  exact Ev.now _
end Go.Proofs.Ytakmkdlkipfnhaa.Pure
