/- InputsIn of the program and of the reference answer alike, for every Prog, and the argument is left as it was; no condition. -/
import Derived.Test.YtbjmhdoagjmmcaaPCoreg4
import Derived.Test.YtbjmhdoagjmmcaaPCoreg10
import Derived.Test.YtbjmhdoagjmmcaaPCoreg11
import Derived.Test.YtbjmhdoagjmmcaaPCoreg19
import Derived.Test.YtbjmhdoagjmmcaaTerm
import Derived.Test.YtbjmhdoagjmmcaaFA
set_option linter.unusedVariables false
set_option linter.unusedSimpArgs false
namespace Go.Proofs.Ytbjmhdoagjmmcaa.Pure
open Go.RowKit Go.Proofs.Ytbjmhdoagjmmcaa.PCore Go.Proofs.YtbjmhdoagjmmcaaW.PrintWords Go.Proofs.YtbjmhdoagjmmcaaW.PrintLast Go.Proofs.YtbjmhdoagjmmcaaW.PrintMore Go.Proofs.Ytbjmhdoagjmmcaa.Bs

/-- How many inputs numbers up to these count. -/
def cntI : List Int → Nat
  | [] => 1
  | v :: l => (v.toNat + 1) * cntI l
theorem cntI_pos : ∀ l : List Int, 0 < cntI l
  | [] => Nat.one_pos
  | v :: l => Nat.mul_pos (Nat.succ_pos _) (cntI_pos l)
def mxs (l : List S77) : List Int := l.map fun e => e.f0
theorem lt_bl (m : Nat) : m + 1 ≤ 2 ^ bl m := by
  unfold bl
  split
  · rename_i h; subst h; decide
  · exact Nat.lt_log2_self
theorem cnt_bits : ∀ l : List S77, cntI (mxs l) ≤ 2 ^ sumBits l
  | [] => Nat.le_refl _
  | e :: l => by
    have h := Nat.mul_le_mul (lt_bl e.f0.toNat) (cnt_bits l)
    rw [← Nat.pow_add, ← sumBits_cons] at h
    exact h
theorem sumBits_app (a b : List S77) : sumBits (a ++ b) = sumBits a + sumBits b := by simp [sumBits]
/-- All that stands in a right Prog's inputs. -/
structure InsR (l : List S77) : Prop where
  len : l.length ≤ 6
  lo : ∀ e ∈ l, 0 ≤ e.f0 ∧ e.f0 ≤ 255
  cnt : cntI (mxs l) ≤ 1024
  bits : sumBits l ≤ 10
theorem Right.insR {n : Nat} {a b : List S77} {t : Int} {c : List Int} {x : List S42} {l : List S71} {v : Nat} (h : Right n a b t c x l v) : InsR (a ++ b) := by
  obtain ⟨h1, h2, h3, h4, h5⟩ := insOk_iff.1 h.ins
  have hp := pow8 n h.rt.hn
  have hb : sumBits (a ++ b) ≤ 10 := by rw [sumBits_app]; exact h5
  refine ⟨by simp; omega, ?_, ?_, hb⟩
  · intro e he
    rcases List.mem_append.1 he with h | h
    · have := inOk_iff.1 (h3 e h); omega
    · have := inOk_iff.1 (h4 e h); omega
  · exact Nat.le_trans (cnt_bits _) (Nat.pow_le_pow_right (by omega) hb)

theorem implAll_eq (w : Int) (a b : List S77) (t : Int) (c : List Int) (x : List S42) (ha : a.length ≤ 3) (hb : b.length ≤ 3) : impl_allInputs.f [(⟨w, a, b, t, c, x⟩ : S35)] = some (a ++ b) := by
  simp only [impl_allInputs.f, rdPg, Option.bind_some, List.nil_append, List.length_nil]
  rw [if_pos (by omega), if_pos (by omega)]

/-- One factor more. -/
theorem cnt_step {v : Int} {acc m : Nat} (h0 : 0 ≤ v) (h1 : v ≤ 255) (h : acc * ((v.toNat + 1) * m) ≤ 1024) (hm : 0 < m) : wrap64 ((acc : Int) * wrap64 (v + 1)) = ((acc * (v.toNat + 1) : Nat) : Int) ∧ acc * (v.toNat + 1) * m ≤ 1024 := by
  rw [← Nat.mul_assoc] at h
  have h2 : acc * (v.toNat + 1) ≤ 1024 := Nat.le_trans (Nat.le_mul_of_pos_right _ hm) h
  obtain ⟨u, rfl⟩ := Int.eq_ofNat_of_zero_le h0
  refine ⟨?_, h⟩
  rw [show wrap64 (((u : Nat) : Int) + 1) = ((u + 1 : Nat) : Int) by rw [wrap_id (by omega) (by omega)]; omega]
  rw [show ((acc : Int) * ((u + 1 : Nat) : Int)) = ((acc * (u + 1) : Nat) : Int) by rw [Int.natCast_mul]]
  exact wrap_id (by omega) (by simp only [Int.toNat_natCast] at h2; omega)
theorem implManyInputs_l (l : List S77) (hl : l.length ≤ 6) (h0 : ∀ e ∈ l, 0 ≤ e.f0 ∧ e.f0 ≤ 255) (d : Nat) : ∀ i acc : Nat, i + d = l.length → acc * cntI (mxs (l.drop i)) ≤ 1024 → Ev (fun k => impl_manyInputs.l0 k (acc : Int) l (l.length : Int) (i : Int)) ((acc * cntI (mxs (l.drop i)) : Nat) : Int) := by
  induction d with
  | zero =>
    intro i acc hi ha
    refine Ev.step (fun k => by rw [impl_manyInputs.l0]) ?_
    simp only [if_neg (show ¬ (i : Int) < (l.length : Int) by omega)]
    rw [List.drop_of_length_le (show l.length ≤ i by omega)]
    exact (Ev.now _).cast (by simp [mxs, cntI])
  | succ d ih =>
    intro i acc hi ha
    have hm := h0 _ (List.getElem_mem (show i < l.length by omega))
    rw [← rdIn_at l i (by omega)] at hm
    refine Ev.step (fun k => by rw [impl_manyInputs.l0]) ?_
    rw [rdIn_drop l i (by omega)] at ha ⊢
    generalize rd_T77 l (i : Int) = e at hm ha ⊢
    simp only [if_pos (show (i : Int) < (l.length : Int) by omega), if_pos (show 0 ≤ (i : Int) by omega), wrap_succ (show i < 9223372036854775807 by omega)]
    obtain ⟨e1, e2⟩ := cnt_step hm.1 hm.2 ha (cntI_pos _)
    rw [e1]
    exact (ih (i + 1) _ (by omega) e2).cast (by simp only [mxs, List.map_cons, cntI, Nat.mul_assoc])
theorem implManyInputs_ev {n : Nat} {a b : List S77} {t : Int} {c : List Int} {x : List S42} {l : List S71} {v : Nat} (h : Right n a b t c x l v) : Ev (fun k => impl_manyInputs.f k [(⟨(n : Int), a, b, t, c, x⟩ : S35)]) ((cntI (mxs (a ++ b)) : Nat) : Int) := by
  have hi := h.insR
  simp only [impl_manyInputs.f, implAll_eq (n : Int) a b t c x h.rt.ha h.rt.hb, Option.bind_some]
  exact (implManyInputs_l (a ++ b) hi.len hi.lo _ 0 1 (Nat.zero_add _) (by rw [List.drop_zero, Nat.one_mul]; exact hi.cnt)).cast (by rw [List.drop_zero, Nat.one_mul])

theorem InsR.mx {l : List S77} (h : InsR l) : (mxs l).length ≤ 6 ∧ ∀ e ∈ mxs l, 0 ≤ e ∧ e ≤ 255 := by
  refine ⟨by simpa [mxs] using h.len, ?_⟩
  intro e he
  obtain ⟨u, hu, rfl⟩ := List.mem_map.1 he
  exact h.lo u hu
theorem specMaxes_l1 (w : Int) (a b : List S77) (t : Int) (c : List Int) (x : List S42) (hb : b.length ≤ 3) (d : Nat) : ∀ (i : Nat) (pre : List Int), i + d = b.length → pre.length + d ≤ 6 → Ev (fun k => spec_l7Maxes.l1 k pre (i : Int) w a b t c x) (pre ++ mxs (b.drop i)) := by
  induction d with
  | zero =>
    intro i pre hi hp
    refine Ev.step (fun k => by rw [spec_l7Maxes.l1]) ?_
    simp only [if_neg (show ¬ (i : Int) < (b.length : Int) by omega)]
    rw [List.drop_of_length_le (show b.length ≤ i by omega)]
    exact (Ev.now _).cast (by simp [mxs])
  | succ d ih =>
    intro i pre hi hp
    refine Ev.step (fun k => by rw [spec_l7Maxes.l1]) ?_
    rw [rdIn_drop b i (by omega)]
    simp only [if_pos (show (i : Int) < (b.length : Int) by omega), if_pos (show 0 ≤ (i : Int) by omega), if_pos (show pre.length < 17592186044416 by omega), wrap_succ (show i < 9223372036854775807 by omega)]
    exact (ih (i + 1) (pre ++ [(rd_T77 b (i : Int)).f0]) (by omega) (by simp; omega)).cast (by simp [mxs])
theorem specMaxes_l0 (w : Int) (a b : List S77) (t : Int) (c : List Int) (x : List S42) (ha : a.length ≤ 3) (hb : b.length ≤ 3) (d : Nat) : ∀ (i : Nat) (pre : List Int), i + d = a.length → pre.length + d ≤ 3 → Ev (fun k => spec_l7Maxes.l0 k pre (i : Int) w a b t c x) (pre ++ mxs (a.drop i) ++ mxs b) := by
  induction d with
  | zero =>
    intro i pre hi hp
    refine Ev.step (fun k => by rw [spec_l7Maxes.l0]) ?_
    simp only [if_neg (show ¬ (i : Int) < (a.length : Int) by omega)]
    rw [List.drop_of_length_le (show a.length ≤ i by omega)]
    exact (specMaxes_l1 w a b t c x hb b.length 0 pre (by omega) (by omega)).cast (by simp [mxs])
  | succ d ih =>
    intro i pre hi hp
    refine Ev.step (fun k => by rw [spec_l7Maxes.l0]) ?_
    rw [rdIn_drop a i (by omega)]
    simp only [if_pos (show (i : Int) < (a.length : Int) by omega), if_pos (show 0 ≤ (i : Int) by omega), if_pos (show pre.length < 17592186044416 by omega), wrap_succ (show i < 9223372036854775807 by omega)]
    exact (ih (i + 1) (pre ++ [(rd_T77 a (i : Int)).f0]) (by omega) (by simp; omega)).cast (by simp [mxs])
theorem specMaxes_ev (w : Int) (a b : List S77) (t : Int) (c : List Int) (x : List S42) (ha : a.length ≤ 3) (hb : b.length ≤ 3) : Ev (fun k => spec_l7Maxes.f k w a b t c x) (mxs (a ++ b)) := by
  simp only [spec_l7Maxes.f]
  exact (specMaxes_l0 w a b t c x ha hb a.length 0 [] (by omega) (by simp; omega)).cast (by simp [mxs])

theorem specCount_l (l : List Int) (hl : l.length ≤ 6) (h0 : ∀ e ∈ l, 0 ≤ e ∧ e ≤ 255) (d : Nat) : ∀ i acc : Nat, i + d = l.length → acc * cntI (l.drop i) ≤ 1024 → Ev (fun k => spec_l7Count.l0 k l (acc : Int) (i : Int)) ((acc * cntI (l.drop i) : Nat) : Int) := by
  induction d with
  | zero =>
    intro i acc hi ha
    refine Ev.step (fun k => by rw [spec_l7Count.l0]) ?_
    simp only [if_neg (show ¬ (i : Int) < (l.length : Int) by omega)]
    rw [List.drop_of_length_le (show l.length ≤ i by omega)]
    exact (Ev.now _).cast (by simp [cntI])
  | succ d ih =>
    intro i acc hi ha
    have hm := h0 _ (List.getElem_mem (show i < l.length by omega))
    rw [← rd_lt l i (by omega)] at hm
    refine Ev.step (fun k => by rw [spec_l7Count.l0]) ?_
    rw [drop_rd l i (by omega)] at ha ⊢
    generalize rd l (i : Int) = e at hm ha ⊢
    simp only [if_pos (show (i : Int) < (l.length : Int) by omega), if_pos (show 0 ≤ (i : Int) by omega), wrap_succ (show i < 9223372036854775807 by omega)]
    obtain ⟨e1, e2⟩ := cnt_step hm.1 hm.2 ha (cntI_pos _)
    rw [e1]
    exact (ih (i + 1) _ (by omega) e2).cast (by rw [cntI, ← Nat.mul_assoc])
theorem specCount_ev {l : List S77} (h : InsR l) : Ev (fun k => spec_l7Count.f k (mxs l)) ((cntI (mxs l) : Nat) : Int) := by
  simp only [spec_l7Count.f]
  exact (specCount_l (mxs l) h.mx.1 h.mx.2 _ 0 1 (Nat.zero_add _) (by rw [List.drop_zero, Nat.one_mul]; exact h.cnt)).cast (by rw [List.drop_zero, Nat.one_mul])

theorem inputsIn_all (w : Int) (a b : List S77) (ha : a.length ≤ 1048576) (hb : b.length ≤ 1048576) (t : Int) (c : List Int) (x : List S42) (hx : x.length ≤ 1048576) (hq : ∀ s ∈ x, s.f2.length ≤ 1048576 ∧ s.f3.length ≤ 1048576) :
    ∃ (p : Bool) (r : Int), Ev (fun k => spec_ProgOk.f k w a b t c x) p ∧ Ev (fun k => spec_InputsIn.f k w a b t c x) r ∧ Ev (fun k => impl_InputsIn.f k w a b t c x) r ∧ (p = false → r = -1) ∧ (p = true → ∃ (n : Nat) (l : List S71) (v : Nat), w = (n : Int) ∧ Right n a b t c x l v ∧ r = ((cntI (mxs (a ++ b)) : Nat) : Int)) := by
  obtain ⟨r, k1, k2, k3⟩ := progOk_all w a b ha hb t c x hx hq
  cases r
  · refine ⟨false, -1, k1, ?_, ?_, fun _ => rfl, fun h => by cases h⟩
    · simp only [spec_InputsIn.f]
      refine Ev.bind k1 ?_
      simp only [Bool.false_eq_true, if_false]
      exact Ev.now _
    · simp only [impl_InputsIn.f]
      refine Ev.bind k2 ?_
      simp only [Bool.false_eq_true, if_false]
      exact Ev.now _
  · obtain ⟨n, l, v, rfl, h⟩ := k3 rfl
    refine ⟨true, ((cntI (mxs (a ++ b)) : Nat) : Int), k1, ?_, ?_, fun h => by (cases h), fun _ => ⟨n, l, v, rfl, h, rfl⟩⟩
    · simp only [spec_InputsIn.f]
      refine Ev.bind k1 ?_
      simp only [if_true]
      refine Ev.bind (specMaxes_ev (n : Int) a b t c x h.rt.ha h.rt.hb) ?_
      exact Ev.bind (specCount_ev h.insR) (Ev.now _)
    · simp only [impl_InputsIn.f]
      refine Ev.bind k2 ?_
      simp only [if_true]
      exact Ev.bind (implManyInputs_ev h) (Ev.now _)

def Want_FnExactInputsIn : Prop := ∀ (a0_0 : Int) (l0_1 : List (S120)) (l0_2 : List (S120)) (a0_3 : Int) (l0_4 : List (Int)) (l0_5 : List (S64)), ((Lit.int .i64 a0_0).wf = true ∧ ((l0_1.length ≤ 9223372036854775807 ∧ ∀ u1 ∈ l0_1, ((Lit.int .i64 u1.f0).wf = true ∧ (Lit.int .i64 u1.f1).wf = true)) ∧ ((l0_2.length ≤ 9223372036854775807 ∧ ∀ u2 ∈ l0_2, ((Lit.int .i64 u2.f0).wf = true ∧ (Lit.int .i64 u2.f1).wf = true)) ∧ ((Lit.int .i64 a0_3).wf = true ∧ ((l0_4.length ≤ 9223372036854775807 ∧ ∀ u3 ∈ l0_4, (Lit.int .i64 u3).wf = true) ∧ (l0_5.length ≤ 9223372036854775807 ∧ ∀ u4 ∈ l0_5, ((Lit.int .i64 u4.f0).wf = true ∧ ((Lit.int .i64 u4.f1).wf = true ∧ ((u4.f2.length ≤ 9223372036854775807 ∧ ∀ u5 ∈ u4.f2, ((Lit.int .i64 u5.f0).wf = true ∧ (Lit.int .i64 u5.f1).wf = true)) ∧ (u4.f3.length ≤ 9223372036854775807 ∧ ∀ u6 ∈ u4.f3, ((Lit.int .i64 u6.f0).wf = true ∧ (Lit.int .i64 u6.f1).wf = true))))))))))) → ∃ k, laws_FnExactInputsIn.f k a0_0 l0_1 l0_2 a0_3 l0_4 l0_5 = some true
theorem FnExactInputsIn : Want_FnExactInputsIn := by
  intro w a b t c d ⟨_, ha, hb, _, hc, hd⟩
  refine Ev.rounds ?_
  simp only [laws_FnExactInputsIn.f]
  obtain ⟨r, er, hr⟩ := szProg_ex w t a b c d 1048576 (by omega) (by omega) ha.1 hb.1 hc.1 hd.1 (fun s hs => ⟨(hd.2 s hs).2.2.1.1, (hd.2 s hs).2.2.2.1⟩)
  refine Ev.bind er ?_
  by_cases cr : r < 0
  · simp only [if_pos cr]; exact Ev.now _
  simp only [if_neg cr]
  have ok : okPg a b c d := by
    rcases hr with h | h
    · exact absurd h cr
    · exact h.2.2
  have e1 := toProg_ev w t a b c d ok
  obtain ⟨_, v, _, k1, k2, _⟩ := inputsIn_all w (a.map inL) (b.map inL) (by simpa using ok.1) (by simpa using ok.2.1) t c (d.map stL) (by simpa using ok.2.2.2.1) (stL_ok ok.2.2.2.2)
  refine Ev.bind e1 ?_
  refine Ev.bind k1 ?_
  refine Ev.bind e1 ?_
  refine Ev.bind k2 ?_
  simp only [bne_self_eq_false, Bool.false_eq_true, if_false]
  refine Ev.bind e1 ?_
  refine Ev.bind (eqProg_same w t a b c d ok) ?_
  simp only [if_true]
  exact Ev.now _
end Go.Proofs.Ytbjmhdoagjmmcaa.Pure
