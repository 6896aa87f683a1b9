/- NumberOf of the program and of the reference answer alike, for every Prog and all lists, and the arguments are left as they were; no condition. -/
import Derived.Test.YtakmkdlkipfnhaaPCoreg4
import Derived.Test.YtakmkdlkipfnhaaPCoreg10
import Derived.Test.YtakmkdlkipfnhaaPCoreg15
import Derived.Test.YtakmkdlkipfnhaaPCoreg16
import Derived.Test.YtakmkdlkipfnhaaPCoreg17
import Derived.Test.YtakmkdlkipfnhaaPCoreg18
import Derived.Test.YtakmkdlkipfnhaaPCoreg19
import Derived.Test.YtakmkdlkipfnhaaTerm
import Derived.Test.YtakmkdlkipfnhaaFA
set_option linter.unusedVariables false
set_option linter.unusedSimpArgs false
namespace Go.Proofs.Ytakmkdlkipfnhaa.Pure
open Go.RowKit Go.Proofs.Ytakmkdlkipfnhaa.PCore Go.Proofs.YtakmkdlkipfnhaaW.PrintWords Go.Proofs.YtakmkdlkipfnhaaW.PrintLast Go.Proofs.YtakmkdlkipfnhaaW.PrintMore Go.Proofs.Ytakmkdlkipfnhaa.Bs

/-- Numbers from 0 to the Maxes, and as many. -/
def wi : List Int → List S106 → Bool
  | [], [] => true
  | v :: l, e :: m => (decide (0 ≤ v) && decide (v ≤ e.f0)) && wi l m
  | _, _ => false
theorem wi_len : ∀ (l : List Int) (m : List S106), wi l m = true → l.length = m.length
  | [], [], _ => rfl
  | v :: l, e :: m, h => by
    simp only [wi, Bool.and_eq_true] at h
    simp only [List.length_cons, wi_len l m h.2]
  | [], _ :: _, h => by cases h
  | _ :: _, [], h => by cases h
theorem wi_drop (l : List Int) (m : List S106) (i : Nat) (h : i < l.length) (k : i < m.length) : wi (l.drop i) (m.drop i) = ((decide (0 ≤ rd l (i : Int)) && decide (rd l (i : Int) ≤ (rd_T106 m (i : Int)).f0)) && wi (l.drop (i + 1)) (m.drop (i + 1))) := by
  rw [drop_rd l i h, rdIn_drop m i k, wi]
def zer (c : List Int) : List (List Int) := c.map fun u => List.replicate u.toNat 0
def startR (a b : List S106) (t : Int) (c l1 l2 : List Int) : List Int × List (List Int) × Bool :=
  if wi l1 a = true ∧ wi l2 b = true then (l1 ++ l2 ++ List.replicate t.toNat 0, zer c, true) else ([], [], false)
theorem zer_drop (c : List Int) (i : Nat) (h : i < c.length) : zer (c.drop i) = List.replicate (rd c (i : Int)).toNat 0 :: zer (c.drop (i + 1)) := by
  rw [drop_rd c i h]; rfl
theorem specStart_l2 (w : Int) (a b : List S106) (t : Int) (c : List Int) (x : List S114) (hc : c.length ≤ 2) (h6 : ∀ u ∈ c, 1 ≤ u ∧ u ≤ 6) (vs : List Int) (d : Nat) : ∀ (i : Nat) (pre : List (List Int)), i + d = c.length → pre.length + d ≤ 2 → Ev (fun k => spec_StartOf.l2 k (i : Int) w a b t c x vs pre) (vs, pre ++ zer (c.drop i), true) := by
  induction d with
  | zero =>
    intro i pre hi hp
    refine Ev.step (fun k => by rw [spec_StartOf.l2]) ?_
    simp only [if_neg (show ¬ (i : Int) < (c.length : Int) by omega)]
    rw [List.drop_of_length_le (show c.length ≤ i by omega)]
    exact (Ev.now _).cast (by simp [zer])
  | succ d ih =>
    intro i pre hi hp
    have hm := h6 _ (List.getElem_mem (show i < c.length by omega))
    rw [← rd_lt c i (by omega)] at hm
    refine Ev.step (fun k => by rw [spec_StartOf.l2]) ?_
    rw [zer_drop c i (by omega)]
    generalize rd c (i : Int) = u at hm ⊢
    simp only [if_pos (show (i : Int) < (c.length : Int) by omega), if_pos (show 0 ≤ (i : Int) by omega), if_pos (show 0 ≤ u by omega), wrap_succ (show i < 9223372036854775807 by omega)]
    simp only [if_pos (show u.toNat ≤ 35184372088832 by omega), if_pos (show pre.length < 5864062014805 by omega)]
    exact (ih (i + 1) (pre ++ [List.replicate u.toNat 0]) (by omega) (by simp; omega)).cast (by simp)
theorem specStart_l1 (w : Int) (a b : List S106) (t : Int) (c : List Int) (x : List S114) (hb : b.length ≤ 3) (h0 : 0 ≤ t) (h1 : t ≤ 6) (hc : c.length ≤ 2) (h6 : ∀ u ∈ c, 1 ≤ u ∧ u ≤ 6) (l2 : List Int) (hl : l2.length = b.length) (d : Nat) : ∀ (i : Nat) (pre : List Int), i + d = l2.length → pre.length + d ≤ 6 → Ev (fun k => spec_StartOf.l1 k l2 (i : Int) w a b t c x pre) (if wi (l2.drop i) (b.drop i) = true then (pre ++ l2.drop i ++ List.replicate t.toNat 0, zer c, true) else ([], [], false)) := by
  induction d with
  | zero =>
    intro i pre hi hp
    refine Ev.step (fun k => by rw [spec_StartOf.l1]) ?_
    simp only [if_neg (show ¬ (i : Int) < (l2.length : Int) by omega), if_pos h0]
    rw [List.drop_of_length_le (show l2.length ≤ i by omega), List.drop_of_length_le (show b.length ≤ i by omega)]
    simp only [if_pos (show pre.length + t.toNat < 17592186044416 by omega)]
    exact (specStart_l2 w a b t c x hc h6 _ c.length 0 [] (by omega) (by simpa using hc)).cast (by simp [wi])
  | succ d ih =>
    intro i pre hi hp
    refine Ev.step (fun k => by rw [spec_StartOf.l1]) ?_
    rw [wi_drop l2 b i (by omega) (by omega)]
    simp only [if_pos (show (i : Int) < (l2.length : Int) by omega), if_pos (show 0 ≤ (i : Int) by omega), if_pos (show (i : Int) < (b.length : Int) by omega), l1In_eq, Option.bind_some, wrap_succ (show i < 9223372036854775807 by omega)]
    cases decide (0 ≤ rd l2 (i : Int)) && decide (rd l2 (i : Int) ≤ (rd_T106 b (i : Int)).f0)
    · simp only [Bool.false_and, Bool.false_eq_true, if_false]
      exact Ev.now _
    · simp only [Bool.true_and, if_true, if_pos (show pre.length < 17592186044416 by omega)]
      refine (ih (i + 1) (pre ++ [rd l2 (i : Int)]) (by omega) (by simp; omega)).cast ?_
      rw [drop_rd l2 i (by omega)]; simp
theorem specStart_l0 (w : Int) (a b : List S106) (t : Int) (c : List Int) (x : List S114) (ha : a.length ≤ 3) (hb : b.length ≤ 3) (h0 : 0 ≤ t) (h1 : t ≤ 6) (hc : c.length ≤ 2) (h6 : ∀ u ∈ c, 1 ≤ u ∧ u ≤ 6) (l1 l2 : List Int) (hk : l1.length = a.length) (hl : l2.length = b.length) (d : Nat) : ∀ (i : Nat) (pre : List Int), i + d = l1.length → pre.length + d ≤ 3 → Ev (fun k => spec_StartOf.l0 k l1 l2 (i : Int) w a b t c x pre) (if wi (l1.drop i) (a.drop i) = true ∧ wi l2 b = true then (pre ++ l1.drop i ++ l2 ++ List.replicate t.toNat 0, zer c, true) else ([], [], false)) := by
  induction d with
  | zero =>
    intro i pre hi hp
    refine Ev.step (fun k => by rw [spec_StartOf.l0]) ?_
    simp only [if_neg (show ¬ (i : Int) < (l1.length : Int) by omega)]
    rw [List.drop_of_length_le (show l1.length ≤ i by omega), List.drop_of_length_le (show a.length ≤ i by omega)]
    exact (specStart_l1 w a b t c x hb h0 h1 hc h6 l2 hl l2.length 0 pre (by omega) (by omega)).cast (by simp [wi])
  | succ d ih =>
    intro i pre hi hp
    refine Ev.step (fun k => by rw [spec_StartOf.l0]) ?_
    rw [wi_drop l1 a i (by omega) (by omega)]
    simp only [if_pos (show (i : Int) < (l1.length : Int) by omega), if_pos (show 0 ≤ (i : Int) by omega), if_pos (show (i : Int) < (a.length : Int) by omega), l1In_eq, Option.bind_some, wrap_succ (show i < 9223372036854775807 by omega)]
    cases decide (0 ≤ rd l1 (i : Int)) && decide (rd l1 (i : Int) ≤ (rd_T106 a (i : Int)).f0)
    · simp only [Bool.false_and, Bool.false_eq_true, false_and, if_false]
      exact Ev.now _
    · simp only [Bool.true_and, if_true, if_pos (show pre.length < 17592186044416 by omega)]
      refine (ih (i + 1) (pre ++ [rd l1 (i : Int)]) (by omega) (by simp; omega)).cast ?_
      rw [drop_rd l1 i (by omega)]; simp
theorem startR_len {a b : List S106} {t : Int} {c l1 l2 : List Int} (h : ¬ (l1.length = a.length ∧ l2.length = b.length)) : startR a b t c l1 l2 = ([], [], false) := by
  rw [startR, if_neg]
  rintro ⟨h1, h2⟩
  exact h ⟨wi_len _ _ h1, wi_len _ _ h2⟩
theorem implWithin_l (l : List Int) (m : List S106) (hl : l.length = m.length) (hm : m.length ≤ 1048576) (d : Nat) : ∀ i : Nat, i + d = l.length → Ev (fun k => impl_within.l0 k m l (l.length : Int) (i : Int)) (wi (l.drop i) (m.drop i)) := by
  induction d with
  | zero =>
    intro i hi
    refine Ev.step (fun k => by rw [impl_within.l0]) ?_
    simp only [if_neg (show ¬ (i : Int) < (l.length : Int) by omega)]
    rw [List.drop_of_length_le (show l.length ≤ i by omega), List.drop_of_length_le (show m.length ≤ i by omega)]
    exact Ev.now _
  | succ d ih =>
    intro i hi
    have ih' := ih (i + 1) (by omega)
    refine Ev.step (fun k => by rw [impl_within.l0]) ?_
    rw [wi_drop l m i (by omega) (by omega)]
    simp only [if_pos (show (i : Int) < (l.length : Int) by omega), if_pos (show 0 ≤ (i : Int) by omega), if_pos (show (i : Int) < (m.length : Int) by omega), wrap_succ (show i < 9223372036854775807 by omega)]
    by_cases c1 : rd l (i : Int) < 0
    · simp only [if_pos c1, decide_eq_false (show ¬ 0 ≤ rd l (i : Int) by omega), Bool.false_and]
      exact Ev.now _
    by_cases c2 : rd l (i : Int) > (rd_T106 m (i : Int)).f0
    · simp only [if_neg c1, if_pos c2, decide_eq_false (show ¬ rd l (i : Int) ≤ (rd_T106 m (i : Int)).f0 by omega), Bool.and_false, Bool.false_and]
      exact Ev.now _
    · simp only [if_neg c1, if_neg c2, decide_eq_true (show 0 ≤ rd l (i : Int) by omega), decide_eq_true (show rd l (i : Int) ≤ (rd_T106 m (i : Int)).f0 by omega), Bool.true_and]
      exact ih'
theorem implWithin_ev (l : List Int) (m : List S106) (hm : m.length ≤ 1048576) : Ev (fun k => impl_within.f k l m) (wi l m) := by
  simp only [impl_within.f]
  by_cases h : l.length = m.length
  · simp only [if_pos (show (l.length : Int) = (m.length : Int) by omega)]
    exact (implWithin_l l m h hm l.length 0 (by omega)).cast (by simp)
  · simp only [if_neg (show ¬ (l.length : Int) = (m.length : Int) by omega)]
    refine (Ev.now _).cast ?_
    cases e : wi l m
    · rfl
    · exact absurd (wi_len _ _ e) h
theorem implStart_l0 (c : List Int) (hc : c.length ≤ 2) (h6 : ∀ u ∈ c, 1 ≤ u ∧ u ≤ 6) (vs : List Int) (d : Nat) : ∀ (i : Nat) (pre : List (List Int)), i + d = c.length → pre.length + d ≤ 2 → Ev (fun k => impl_startAt.l0 k c (c.length : Int) (i : Int) vs pre) (vs, pre ++ zer (c.drop i)) := by
  induction d with
  | zero =>
    intro i pre hi hp
    refine Ev.step (fun k => by rw [impl_startAt.l0]) ?_
    simp only [if_neg (show ¬ (i : Int) < (c.length : Int) by omega)]
    rw [List.drop_of_length_le (show c.length ≤ i by omega)]
    exact (Ev.now _).cast (by simp [zer])
  | succ d ih =>
    intro i pre hi hp
    have hm := h6 _ (List.getElem_mem (show i < c.length by omega))
    rw [← rd_lt c i (by omega)] at hm
    refine Ev.step (fun k => by rw [impl_startAt.l0]) ?_
    rw [zer_drop c i (by omega)]
    generalize rd c (i : Int) = u at hm ⊢
    simp only [if_pos (show (i : Int) < (c.length : Int) by omega), if_pos (show 0 ≤ (i : Int) by omega), if_pos (show 0 ≤ u by omega), wrap_succ (show i < 9223372036854775807 by omega)]
    simp only [if_pos (show u.toNat ≤ 35184372088832 by omega), if_pos (show pre.length < 5864062014805 by omega)]
    exact (ih (i + 1) (pre ++ [List.replicate u.toNat 0]) (by omega) (by simp; omega)).cast (by simp)
theorem implStartAt_ev {n : Nat} {a b : List S106} {t : Int} {c : List Int} {x : List S114} {l : List S163} {v : Nat} (h : Right n a b t c x l v) (l1 l2 : List Int) (h1 : l1.length ≤ 3) (h2 : l2.length ≤ 3) : Ev (fun k => impl_startAt.f k [(⟨(n : Int), a, b, t, c, x⟩ : S36)] l1 l2) (l1 ++ l2 ++ List.replicate t.toNat 0, zer c) := by
  obtain ⟨t0, t6, c2, _, h6⟩ := roomOk_iff.1 h.room
  simp only [impl_startAt.f, rdPg, Option.bind_some, List.nil_append, List.length_nil]
  simp only [if_pos (show 0 + l1.length < 17592186044416 by omega), if_pos (show l1.length + l2.length < 17592186044416 by omega), if_pos t0, if_pos (show (l1 ++ l2).length + t.toNat < 17592186044416 by simp; omega)]
  exact (implStart_l0 c c2 h6 _ c.length 0 [] (by omega) (by simpa using c2)).cast (by simp)
theorem startOf_all (w : Int) (a b : List S106) (ha : a.length ≤ 1048576) (hb : b.length ≤ 1048576) (t : Int) (c : List Int) (x : List S114) (hx : x.length ≤ 1048576) (hq : ∀ s ∈ x, s.f2.length ≤ 1048576 ∧ s.f3.length ≤ 1048576) (l1 l2 : List Int) :
    ∃ (p : Bool) (r : List Int × List (List Int) × Bool), Ev (fun k => spec_ProgOk.f k w a b t c x) p ∧ Ev (fun k => impl_ProgOk.f k w a b t c x) p ∧ Ev (fun k => spec_StartOf.f k w a b t c x l1 l2) r ∧ Ev (fun k => impl_StartOf.f k w a b t c x l1 l2) r ∧ (p = false → r = ([], [], false)) ∧ (p = true → ∃ (n : Nat) (l : List S163) (v : Nat), w = (n : Int) ∧ Right n a b t c x l v ∧ r = startR a b t c l1 l2) := by
  have jT : Ev (fun k => spec_StartOf.j0 k l1 l2 true w a b t c x) (([] : List Int), ([] : List (List Int)), false) := by
    refine Ev.step (fun k => by rw [spec_StartOf.j0]) ?_
    simp only [if_true]; exact Ev.now _
  obtain ⟨r, k1, k2, k3⟩ := progOk_all w a b ha hb t c x hx hq
  cases r
  · refine ⟨false, ([], [], false), k1, k2, ?_, ?_, fun _ => rfl, fun h => by cases h⟩
    · simp only [spec_StartOf.f]
      refine Ev.bind k1 ?_
      simp only [Bool.false_eq_true, if_false]
      exact jT
    · simp only [impl_StartOf.f]
      refine Ev.bind k2 ?_
      simp only [Bool.false_eq_true, if_false]
      exact Ev.now _
  · obtain ⟨n, l, v, rfl, h⟩ := k3 rfl
    obtain ⟨t0, t6, c2, _, h6⟩ := roomOk_iff.1 h.room
    have a3 := h.rt.ha
    have b3 := h.rt.hb
    refine ⟨true, startR a b t c l1 l2, k1, k2, ?_, ?_, fun h => by (cases h), fun _ => ⟨n, l, v, rfl, h, rfl⟩⟩
    · simp only [spec_StartOf.f]
      refine Ev.bind k1 ?_
      simp only [if_true]
      by_cases e1 : l1.length = a.length
      · by_cases e2 : l2.length = b.length
        · simp only [if_pos (show (l1.length : Int) = (a.length : Int) by omega), bne_eq_false_iff_eq.2 (show (l2.length : Int) = (b.length : Int) by omega)]
          refine Ev.step (fun k => by rw [spec_StartOf.j0]) ?_
          simp only [Bool.false_eq_true, if_false]
          exact (specStart_l0 (n : Int) a b t c x a3 b3 t0 t6 c2 h6 l1 l2 e1 e2 l1.length 0 [] (by omega) (by simp; omega)).cast (by simp [startR])
        · simp only [if_pos (show (l1.length : Int) = (a.length : Int) by omega), bne_iff_ne.2 (show (l2.length : Int) ≠ (b.length : Int) by omega)]
          rw [startR_len (fun h => e2 h.2)]; exact jT
      · simp only [if_neg (show ¬ (l1.length : Int) = (a.length : Int) by omega)]
        rw [startR_len (fun h => e1 h.1)]; exact jT
    · simp only [impl_StartOf.f]
      refine Ev.bind k2 ?_
      simp only [if_true]
      refine Ev.bind (implWithin_ev l1 a ha) ?_
      cases e1 : wi l1 a
      · simp only [Bool.false_eq_true, if_false]
        exact (Ev.now _).cast (by simp [startR, e1])
      simp only [if_true]
      refine Ev.bind (implWithin_ev l2 b hb) ?_
      cases e2 : wi l2 b
      · simp only [Bool.false_eq_true, if_false]
        exact (Ev.now _).cast (by simp [startR, e2])
      simp only [if_true]
      have g1 := wi_len _ _ e1
      have g2 := wi_len _ _ e2
      refine Ev.bind (implStartAt_ev h l1 l2 (by omega) (by omega)) ?_
      exact (Ev.now _).cast (by simp [startR, e1, e2])

/-- How many inputs numbers up to these count. -/
def cntI : List Int → Nat
  | [] => 1
  | v :: l => (v.toNat + 1) * cntI l
theorem cntI_pos : ∀ l : List Int, 0 < cntI l
  | [] => Nat.one_pos
  | v :: l => Nat.mul_pos (Nat.succ_pos _) (cntI_pos l)
def mxs (l : List S106) : List Int := l.map fun e => e.f0
theorem lt_bl (m : Nat) : m + 1 ≤ 2 ^ bl m := by
  unfold bl
  split
  · rename_i h; subst h; decide
  · exact Nat.lt_log2_self
theorem cnt_bits : ∀ l : List S106, cntI (mxs l) ≤ 2 ^ sumBits l
  | [] => Nat.le_refl _
  | e :: l => by
    have h := Nat.mul_le_mul (lt_bl e.f0.toNat) (cnt_bits l)
    rw [← Nat.pow_add, ← sumBits_cons] at h
    exact h
theorem sumBits_app (a b : List S106) : sumBits (a ++ b) = sumBits a + sumBits b := by simp [sumBits]
/-- All that stands in a right Prog's inputs. -/
structure InsR (l : List S106) : Prop where
  len : l.length ≤ 6
  lo : ∀ e ∈ l, 0 ≤ e.f0 ∧ e.f0 ≤ 255
  cnt : cntI (mxs l) ≤ 1024
  bits : sumBits l ≤ 10
theorem Right.insR {n : Nat} {a b : List S106} {t : Int} {c : List Int} {x : List S114} {l : List S163} {v : Nat} (h : Right n a b t c x l v) : InsR (a ++ b) := by
  obtain ⟨h1, h2, h3, h4, h5⟩ := insOk_iff.1 h.ins
  have hp := pow8 n h.rt.hn
  have hb : sumBits (a ++ b) ≤ 10 := by rw [sumBits_app]; exact h5
  refine ⟨by simp; omega, ?_, ?_, hb⟩
  · intro e he
    rcases List.mem_append.1 he with h | h
    · have := inOk_iff.1 (h3 e h); omega
    · have := inOk_iff.1 (h4 e h); omega
  · exact Nat.le_trans (cnt_bits _) (Nat.pow_le_pow_right (by omega) hb)

theorem implAll_eq (w : Int) (a b : List S106) (t : Int) (c : List Int) (x : List S114) (ha : a.length ≤ 3) (hb : b.length ≤ 3) : impl_allInputs.f [(⟨w, a, b, t, c, x⟩ : S36)] = some (a ++ b) := by
  simp only [impl_allInputs.f, rdPg, Option.bind_some, List.nil_append, List.length_nil]
  rw [if_pos (by omega), if_pos (by omega)]

theorem InsR.mx {l : List S106} (h : InsR l) : (mxs l).length ≤ 6 ∧ ∀ e ∈ mxs l, 0 ≤ e ∧ e ≤ 255 := by
  refine ⟨by simpa [mxs] using h.len, ?_⟩
  intro e he
  obtain ⟨u, hu, rfl⟩ := List.mem_map.1 he
  exact h.lo u hu
theorem specMaxes_l1 (w : Int) (a b : List S106) (t : Int) (c : List Int) (x : List S114) (hb : b.length ≤ 3) (d : Nat) : ∀ (i : Nat) (pre : List Int), i + d = b.length → pre.length + d ≤ 6 → Ev (fun k => spec_l7Maxes.l1 k pre (i : Int) w a b t c x) (pre ++ mxs (b.drop i)) := by
  induction d with
  | zero =>
    intro i pre hi hp
    refine Ev.step (fun k => by rw [spec_l7Maxes.l1]) ?_
    simp only [if_neg (show ¬ (i : Int) < (b.length : Int) by omega)]
    rw [List.drop_of_length_le (show b.length ≤ i by omega)]
    exact (Ev.now _).cast (by simp [mxs])
  | succ d ih =>
    intro i pre hi hp
    refine Ev.step (fun k => by rw [spec_l7Maxes.l1]) ?_
    rw [rdIn_drop b i (by omega)]
    simp only [if_pos (show (i : Int) < (b.length : Int) by omega), if_pos (show 0 ≤ (i : Int) by omega), if_pos (show pre.length < 17592186044416 by omega), wrap_succ (show i < 9223372036854775807 by omega)]
    exact (ih (i + 1) (pre ++ [(rd_T106 b (i : Int)).f0]) (by omega) (by simp; omega)).cast (by simp [mxs])
theorem specMaxes_l0 (w : Int) (a b : List S106) (t : Int) (c : List Int) (x : List S114) (ha : a.length ≤ 3) (hb : b.length ≤ 3) (d : Nat) : ∀ (i : Nat) (pre : List Int), i + d = a.length → pre.length + d ≤ 3 → Ev (fun k => spec_l7Maxes.l0 k pre (i : Int) w a b t c x) (pre ++ mxs (a.drop i) ++ mxs b) := by
  induction d with
  | zero =>
    intro i pre hi hp
    refine Ev.step (fun k => by rw [spec_l7Maxes.l0]) ?_
    simp only [if_neg (show ¬ (i : Int) < (a.length : Int) by omega)]
    rw [List.drop_of_length_le (show a.length ≤ i by omega)]
    exact (specMaxes_l1 w a b t c x hb b.length 0 pre (by omega) (by omega)).cast (by simp [mxs])
  | succ d ih =>
    intro i pre hi hp
    refine Ev.step (fun k => by rw [spec_l7Maxes.l0]) ?_
    rw [rdIn_drop a i (by omega)]
    simp only [if_pos (show (i : Int) < (a.length : Int) by omega), if_pos (show 0 ≤ (i : Int) by omega), if_pos (show pre.length < 17592186044416 by omega), wrap_succ (show i < 9223372036854775807 by omega)]
    exact (ih (i + 1) (pre ++ [(rd_T106 a (i : Int)).f0]) (by omega) (by simp; omega)).cast (by simp [mxs])
theorem specMaxes_ev (w : Int) (a b : List S106) (t : Int) (c : List Int) (x : List S114) (ha : a.length ≤ 3) (hb : b.length ≤ 3) : Ev (fun k => spec_l7Maxes.f k w a b t c x) (mxs (a ++ b)) := by
  simp only [spec_l7Maxes.f]
  exact (specMaxes_l0 w a b t c x ha hb a.length 0 [] (by omega) (by simp; omega)).cast (by simp [mxs])

/-- The number of values by these Maxes, the last ones first, as the machine reckons it. -/
def numW (ms vs : List Int) : Nat → Int → Int
  | 0, acc => acc
  | i + 1, acc => numW ms vs i (wrap64 (wrap64 (acc * wrap64 (rd ms (i : Int) + 1)) + rd vs (i : Int)))
theorem specNumber_l (ms vs : List Int) (hl : vs.length ≤ 6) (hm : vs.length = ms.length) : ∀ (i : Nat) (acc : Int), i ≤ vs.length → Ev (fun k => spec_NumberOf.l0 k vs ms acc ((i : Int) - 1)) (numW ms vs i acc)
  | 0, acc, _ => by
    refine Ev.step (fun k => by rw [spec_NumberOf.l0]) ?_
    simp only [if_neg (show ¬ ((0 : Nat) : Int) - 1 ≥ 0 by omega)]
    exact Ev.now _
  | i + 1, acc, hi => by
    refine Ev.step (fun k => by rw [spec_NumberOf.l0]) ?_
    rw [show ((i + 1 : Nat) : Int) - 1 = (i : Int) by omega]
    simp only [if_pos (show (i : Int) ≥ 0 by omega), if_pos (show 0 ≤ (i : Int) by omega), if_pos (show (i : Int) < (ms.length : Int) by omega), if_pos (show (i : Int) < (vs.length : Int) by omega), wrap_id (show -9223372036854775808 ≤ (i : Int) - 1 by omega) (by omega)]
    exact specNumber_l ms vs hl hm i _ (by omega)
theorem rd_mxs (l : List S106) (i : Nat) (h : i < l.length) : rd (mxs l) (i : Int) = (rd_T106 l (i : Int)).f0 := by
  rw [rd_lt _ i (by simpa [mxs] using h), rdIn_at l i h]; simp [mxs]
theorem implNumber_l (l : List S106) (vs : List Int) (hl : vs.length ≤ 6) (hm : vs.length = l.length) : ∀ (i : Nat) (acc : Int), i ≤ vs.length → Ev (fun k => impl_NumberOf.l0 k acc l vs ((i : Int) - 1)) (numW (mxs l) vs i acc)
  | 0, acc, _ => by
    refine Ev.step (fun k => by rw [impl_NumberOf.l0]) ?_
    simp only [if_neg (show ¬ ((0 : Nat) : Int) - 1 ≥ 0 by omega)]
    exact Ev.now _
  | i + 1, acc, hi => by
    refine Ev.step (fun k => by rw [impl_NumberOf.l0]) ?_
    rw [show ((i + 1 : Nat) : Int) - 1 = (i : Int) by omega]
    simp only [if_pos (show (i : Int) ≥ 0 by omega), if_pos (show 0 ≤ (i : Int) by omega), if_pos (show (i : Int) < (l.length : Int) by omega), if_pos (show (i : Int) < (vs.length : Int) by omega), wrap_id (show -9223372036854775808 ≤ (i : Int) - 1 by omega) (by omega)]
    rw [← rd_mxs l i (by omega)]
    exact implNumber_l l vs hl hm i _ (by omega)
theorem numberOf_all (w : Int) (a b : List S106) (ha : a.length ≤ 1048576) (hb : b.length ≤ 1048576) (t : Int) (c : List Int) (x : List S114) (hx : x.length ≤ 1048576) (hq : ∀ s ∈ x, s.f2.length ≤ 1048576 ∧ s.f3.length ≤ 1048576) (l1 l2 : List Int) :
    ∃ r : Int, Ev (fun k => spec_NumberOf.f k w a b t c x l1 l2) r ∧ Ev (fun k => impl_NumberOf.f k w a b t c x l1 l2) r := by
  obtain ⟨p, r, _, _, k1, k2, hn, hy⟩ := startOf_all w a b ha hb t c x hx hq l1 l2
  have no : r.2.2 = false → ∃ r : Int, Ev (fun k => spec_NumberOf.f k w a b t c x l1 l2) r ∧ Ev (fun k => impl_NumberOf.f k w a b t c x l1 l2) r := by
    intro e
    refine ⟨-1, ?_, ?_⟩
    · simp only [spec_NumberOf.f]
      refine Ev.bind k1 ?_
      simp only [e, Bool.false_eq_true, if_false]
      exact Ev.now _
    · simp only [impl_NumberOf.f]
      refine Ev.bind k2 ?_
      simp only [e, Bool.false_eq_true, if_false]
      exact Ev.now _
  cases p
  · exact no (by rw [hn rfl])
  obtain ⟨n, l, v, rfl, h, er⟩ := hy rfl
  by_cases e : wi l1 a = true ∧ wi l2 b = true
  · have g1 := wi_len _ _ e.1
    have g2 := wi_len _ _ e.2
    have a3 := h.rt.ha
    have b3 := h.rt.hb
    rw [startR, if_pos e] at er
    subst er
    have hlen : (l1 ++ l2).length = (mxs (a ++ b)).length := by simp [mxs, g1, g2]
    have hle : (l1 ++ l2).length ≤ 6 := by simp; omega
    have hlen2 : (l1 ++ l2).length = (a ++ b).length := by simp [g1, g2]
    refine ⟨numW (mxs (a ++ b)) (l1 ++ l2) (l1 ++ l2).length 0, ?_, ?_⟩
    · simp only [spec_NumberOf.f]
      refine Ev.bind k1 ?_
      simp only [if_true, Option.bind_some, List.nil_append, List.length_nil]
      simp only [if_pos (show 0 + l1.length < 17592186044416 by omega), if_pos (show l1.length + l2.length < 17592186044416 by omega)]
      refine Ev.bind (specMaxes_ev (n : Int) a b t c x a3 b3) ?_
      rw [← hlen, wrap_id (by omega) (by omega)]
      exact specNumber_l _ _ hle hlen _ 0 (Nat.le_refl _)
    · simp only [impl_NumberOf.f]
      refine Ev.bind k2 ?_
      simp only [if_true, implAll_eq (n : Int) a b t c x a3 b3, Option.bind_some, List.nil_append, List.length_nil]
      simp only [if_pos (show 0 + l1.length < 17592186044416 by omega), if_pos (show l1.length + l2.length < 17592186044416 by omega)]
      rw [wrap_id (show -9223372036854775808 ≤ ((l1 ++ l2).length : Int) - 1 by omega) (by omega)]
      exact implNumber_l _ _ hle hlen2 _ 0 (Nat.le_refl _)
  · exact no (by rw [er, startR, if_neg e])

def Want_FnExactNumberOf : Prop := ∀ (a0_0 : Int) (l0_1 : List (S128)) (l0_2 : List (S128)) (a0_3 : Int) (l0_4 : List (Int)) (l0_5 : List (S126)) (l1 : List (Int)) (l2 : List (Int)), ((Lit.int .i64 a0_0).wf = true ∧ ((l0_1.length ≤ 9223372036854775807 ∧ ∀ u1 ∈ l0_1, ((Lit.int .i64 u1.f0).wf = true ∧ (Lit.int .i64 u1.f1).wf = true)) ∧ ((l0_2.length ≤ 9223372036854775807 ∧ ∀ u2 ∈ l0_2, ((Lit.int .i64 u2.f0).wf = true ∧ (Lit.int .i64 u2.f1).wf = true)) ∧ ((Lit.int .i64 a0_3).wf = true ∧ ((l0_4.length ≤ 9223372036854775807 ∧ ∀ u3 ∈ l0_4, (Lit.int .i64 u3).wf = true) ∧ (l0_5.length ≤ 9223372036854775807 ∧ ∀ u4 ∈ l0_5, ((Lit.int .i64 u4.f0).wf = true ∧ ((Lit.int .i64 u4.f1).wf = true ∧ ((u4.f2.length ≤ 9223372036854775807 ∧ ∀ u5 ∈ u4.f2, ((Lit.int .i64 u5.f0).wf = true ∧ (Lit.int .i64 u5.f1).wf = true)) ∧ (u4.f3.length ≤ 9223372036854775807 ∧ ∀ u6 ∈ u4.f3, ((Lit.int .i64 u6.f0).wf = true ∧ (Lit.int .i64 u6.f1).wf = true))))))))))) → (l1.length ≤ 9223372036854775807 ∧ ∀ u7 ∈ l1, (Lit.int .i64 u7).wf = true) → (l2.length ≤ 9223372036854775807 ∧ ∀ u8 ∈ l2, (Lit.int .i64 u8).wf = true) → ∃ k, laws_FnExactNumberOf.f k a0_0 l0_1 l0_2 a0_3 l0_4 l0_5 l1 l2 = some true
theorem FnExactNumberOf : Want_FnExactNumberOf := by
  intro w a b t c d l1 l2 ⟨_, ha, hb, _, hc, hd⟩ _ _
  refine Ev.rounds ?_
  simp only [laws_FnExactNumberOf.f]
  by_cases q1 : (l1.length : Int) > 1048576
  · simp only [if_pos q1]; exact Ev.now _
  by_cases q2 : (l2.length : Int) > 1048576
  · simp only [if_neg q1, if_pos q2]; exact Ev.now _
  simp only [if_neg q1, if_neg q2]
  have i1 := toInt64S_ev l1 (by omega)
  have i2 := toInt64S_ev l2 (by omega)
  obtain ⟨r, er, hr⟩ := szProg_ex w t a b c d 1048576 (by omega) (by omega) ha.1 hb.1 hc.1 hd.1 (fun s hs => ⟨(hd.2 s hs).2.2.1.1, (hd.2 s hs).2.2.2.1⟩)
  refine Ev.bind er ?_
  by_cases cr : r < 0
  · simp only [if_pos cr]; exact Ev.now _
  simp only [if_neg cr]
  have ok : okPg a b c d := by
    rcases hr with h | h
    · exact absurd h cr
    · exact h.2.2
  have e1 := toProg_ev w t a b c d ok
  obtain ⟨v, k1, k2⟩ := numberOf_all w (a.map inL) (b.map inL) (by simpa using ok.1) (by simpa using ok.2.1) t c (d.map stL) (by simpa using ok.2.2.2.1) (stL_ok ok.2.2.2.2) l1 l2
  refine Ev.bind e1 ?_
  refine Ev.bind i1 ?_
  refine Ev.bind i2 ?_
  refine Ev.bind k1 ?_
  refine Ev.bind e1 ?_
  refine Ev.bind i1 ?_
  refine Ev.bind i2 ?_
  refine Ev.bind k2 ?_
  simp only [if_true]
  refine Ev.bind e1 ?_
  refine Ev.bind (eqProg_same w t a b c d ok) ?_
  simp only [if_true]
  refine Ev.bind i1 ?_
  refine Ev.bind ((eqInt64S_ev l1 l1 (by omega)).cast (decide_eq_true rfl)) ?_
  simp only [if_true]
  refine Ev.bind i2 ?_
  refine Ev.bind ((eqInt64S_ev l2 l2 (by omega)).cast (decide_eq_true rfl)) ?_
  simp only [if_true]
  exact Ev.now _
end Go.Proofs.Ytakmkdlkipfnhaa.Pure
