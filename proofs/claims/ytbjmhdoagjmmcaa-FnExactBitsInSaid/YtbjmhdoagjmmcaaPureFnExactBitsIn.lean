/- BitsIn of the program and of the reference answer alike, for every Prog, and the argument is left as it was; no condition. -/
import Derived.Test.YtbjmhdoagjmmcaaPCoreg2
import Derived.Test.YtbjmhdoagjmmcaaPCoreg10
import Derived.Test.YtbjmhdoagjmmcaaPCoreg18
import Derived.Test.YtbjmhdoagjmmcaaTerm
import Derived.Test.YtbjmhdoagjmmcaaFA
set_option linter.unusedVariables false
set_option linter.unusedSimpArgs false
namespace Go.Proofs.Ytbjmhdoagjmmcaa.Pure
open Go.RowKit Go.Proofs.Ytbjmhdoagjmmcaa.PCore Go.Proofs.YtbjmhdoagjmmcaaW.PrintWords Go.Proofs.YtbjmhdoagjmmcaaW.PrintLast Go.Proofs.YtbjmhdoagjmmcaaW.PrintMore Go.Proofs.Ytbjmhdoagjmmcaa.Bs

/-- How many inputs numbers up to these count. -/
def cntI : List Int → Nat
  | [] => 1
  | v :: l => (v.toNat + 1) * cntI l
theorem cntI_pos : ∀ l : List Int, 0 < cntI l
  | [] => Nat.one_pos
  | v :: l => Nat.mul_pos (Nat.succ_pos _) (cntI_pos l)
def mxs (l : List S77) : List Int := l.map fun e => e.f0
theorem lt_bl (m : Nat) : m + 1 ≤ 2 ^ bl m := by
  unfold bl
  split
  · rename_i h; subst h; decide
  · exact Nat.lt_log2_self
theorem cnt_bits : ∀ l : List S77, cntI (mxs l) ≤ 2 ^ sumBits l
  | [] => Nat.le_refl _
  | e :: l => by
    have h := Nat.mul_le_mul (lt_bl e.f0.toNat) (cnt_bits l)
    rw [← Nat.pow_add, ← sumBits_cons] at h
    exact h
theorem sumBits_app (a b : List S77) : sumBits (a ++ b) = sumBits a + sumBits b := by simp [sumBits]
/-- All that stands in a right Prog's inputs. -/
structure InsR (l : List S77) : Prop where
  len : l.length ≤ 6
  lo : ∀ e ∈ l, 0 ≤ e.f0 ∧ e.f0 ≤ 255
  cnt : cntI (mxs l) ≤ 1024
  bits : sumBits l ≤ 10
theorem Right.insR {n : Nat} {a b : List S77} {t : Int} {c : List Int} {x : List S42} {l : List S71} {v : Nat} (h : Right n a b t c x l v) : InsR (a ++ b) := by
  obtain ⟨h1, h2, h3, h4, h5⟩ := insOk_iff.1 h.ins
  have hp := pow8 n h.rt.hn
  have hb : sumBits (a ++ b) ≤ 10 := by rw [sumBits_app]; exact h5
  refine ⟨by simp; omega, ?_, ?_, hb⟩
  · intro e he
    rcases List.mem_append.1 he with h | h
    · have := inOk_iff.1 (h3 e h); omega
    · have := inOk_iff.1 (h4 e h); omega
  · exact Nat.le_trans (cnt_bits _) (Nat.pow_le_pow_right (by omega) hb)

theorem implAll_eq (w : Int) (a b : List S77) (t : Int) (c : List Int) (x : List S42) (ha : a.length ≤ 3) (hb : b.length ≤ 3) : impl_allInputs.f [(⟨w, a, b, t, c, x⟩ : S35)] = some (a ++ b) := by
  simp only [impl_allInputs.f, rdPg, Option.bind_some, List.nil_append, List.length_nil]
  rw [if_pos (by omega), if_pos (by omega)]

theorem implManyBits_l (l : List S77) (hl : l.length ≤ 6) (h0 : ∀ e ∈ l, 0 ≤ e.f0 ∧ e.f0 ≤ 255) (d : Nat) : ∀ i acc : Nat, i + d = l.length → acc + 8 * d ≤ 100 → Ev (fun k => impl_manyBits.l0 k (acc : Int) l (l.length : Int) (i : Int)) ((acc + sumBits (l.drop i) : Nat) : Int) := by
  induction d with
  | zero =>
    intro i acc hi ha
    refine Ev.step (fun k => by rw [impl_manyBits.l0]) ?_
    simp only [if_neg (show ¬ (i : Int) < (l.length : Int) by omega)]
    rw [List.drop_of_length_le (show l.length ≤ i by omega)]
    exact (Ev.now _).cast (by simp [sumBits])
  | succ d ih =>
    intro i acc hi ha
    have hm := h0 _ (List.getElem_mem (show i < l.length by omega))
    rw [← rdIn_at l i (by omega)] at hm
    refine Ev.step (fun k => by rw [impl_manyBits.l0]) ?_
    rw [rdIn_drop l i (by omega), sumBits_cons]
    generalize rd_T77 l (i : Int) = e at hm ⊢
    simp only [if_pos (show (i : Int) < (l.length : Int) by omega), if_pos (show 0 ≤ (i : Int) by omega)]
    have h3 := bl_le 8 e.f0.toNat (by omega)
    refine Ev.bind (implBits_ev _ (by omega) (by omega)) ?_
    rw [show wrap64 ((acc : Int) + ((bl e.f0.toNat : Nat) : Int)) = ((acc + bl e.f0.toNat : Nat) : Int) by rw [wrap_id (by omega) (by omega)]; omega]
    simp only [wrap_succ (show i < 9223372036854775807 by omega)]
    exact (ih (i + 1) (acc + bl e.f0.toNat) (by omega) (by omega)).cast (by rw [Nat.add_assoc])
theorem implManyBits_ev {n : Nat} {a b : List S77} {t : Int} {c : List Int} {x : List S42} {l : List S71} {v : Nat} (h : Right n a b t c x l v) : Ev (fun k => impl_manyBits.f k [(⟨(n : Int), a, b, t, c, x⟩ : S35)]) ((sumBits (a ++ b) : Nat) : Int) := by
  have hi := h.insR
  simp only [impl_manyBits.f, implAll_eq (n : Int) a b t c x h.rt.ha h.rt.hb, Option.bind_some]
  exact (implManyBits_l (a ++ b) hi.len hi.lo _ 0 0 (Nat.zero_add _) (by have := hi.len; omega)).cast (by rw [List.drop_zero, Nat.zero_add])
theorem specAllBits_ev {n : Nat} {a b : List S77} {t : Int} {c : List Int} {x : List S42} {l : List S71} {v : Nat} (h : Right n a b t c x l v) : Ev (fun k => spec_l3AllBits.f k (n : Int) a b t c x) ((sumBits (a ++ b) : Nat) : Int) := by
  obtain ⟨h1, h2, h3, h4, h5⟩ := insOk_iff.1 h.ins
  have hp := pow8 n h.rt.hn
  simp only [spec_l3AllBits.f]
  exact (specAllBits_l0 (((2 ^ n : Nat) : Int) - 1) (by omega) (n : Int) a b t c x h3 h4 h1 h2 a.length 0 0 (by omega) (by omega)).cast (by rw [List.drop_zero, Nat.zero_add, sumBits_app])
theorem bitsIn_all (w : Int) (a b : List S77) (ha : a.length ≤ 1048576) (hb : b.length ≤ 1048576) (t : Int) (c : List Int) (x : List S42) (hx : x.length ≤ 1048576) (hq : ∀ s ∈ x, s.f2.length ≤ 1048576 ∧ s.f3.length ≤ 1048576) :
    ∃ r : Int, Ev (fun k => spec_BitsIn.f k w a b t c x) r ∧ Ev (fun k => impl_BitsIn.f k w a b t c x) r := by
  obtain ⟨r, k1, k2, k3⟩ := progOk_all w a b ha hb t c x hx hq
  cases r
  · refine ⟨-1, ?_, ?_⟩
    · simp only [spec_BitsIn.f]
      refine Ev.bind k1 ?_
      simp only [Bool.false_eq_true, if_false]
      exact Ev.now _
    · simp only [impl_BitsIn.f]
      refine Ev.bind k2 ?_
      simp only [Bool.false_eq_true, if_false]
      exact Ev.now _
  · obtain ⟨n, l, v, rfl, h⟩ := k3 rfl
    refine ⟨((sumBits (a ++ b) : Nat) : Int), ?_, ?_⟩
    · simp only [spec_BitsIn.f]
      refine Ev.bind k1 ?_
      simp only [if_true]
      exact Ev.bind (specAllBits_ev h) (Ev.now _)
    · simp only [impl_BitsIn.f]
      refine Ev.bind k2 ?_
      simp only [if_true]
      exact Ev.bind (implManyBits_ev h) (Ev.now _)

def Want_FnExactBitsIn : Prop := ∀ (a0_0 : Int) (l0_1 : List (S120)) (l0_2 : List (S120)) (a0_3 : Int) (l0_4 : List (Int)) (l0_5 : List (S64)), ((Lit.int .i64 a0_0).wf = true ∧ ((l0_1.length ≤ 9223372036854775807 ∧ ∀ u1 ∈ l0_1, ((Lit.int .i64 u1.f0).wf = true ∧ (Lit.int .i64 u1.f1).wf = true)) ∧ ((l0_2.length ≤ 9223372036854775807 ∧ ∀ u2 ∈ l0_2, ((Lit.int .i64 u2.f0).wf = true ∧ (Lit.int .i64 u2.f1).wf = true)) ∧ ((Lit.int .i64 a0_3).wf = true ∧ ((l0_4.length ≤ 9223372036854775807 ∧ ∀ u3 ∈ l0_4, (Lit.int .i64 u3).wf = true) ∧ (l0_5.length ≤ 9223372036854775807 ∧ ∀ u4 ∈ l0_5, ((Lit.int .i64 u4.f0).wf = true ∧ ((Lit.int .i64 u4.f1).wf = true ∧ ((u4.f2.length ≤ 9223372036854775807 ∧ ∀ u5 ∈ u4.f2, ((Lit.int .i64 u5.f0).wf = true ∧ (Lit.int .i64 u5.f1).wf = true)) ∧ (u4.f3.length ≤ 9223372036854775807 ∧ ∀ u6 ∈ u4.f3, ((Lit.int .i64 u6.f0).wf = true ∧ (Lit.int .i64 u6.f1).wf = true))))))))))) → ∃ k, laws_FnExactBitsIn.f k a0_0 l0_1 l0_2 a0_3 l0_4 l0_5 = some true
theorem FnExactBitsIn : Want_FnExactBitsIn := by
  intro w a b t c d ⟨_, ha, hb, _, hc, hd⟩
  refine Ev.rounds ?_
  simp only [laws_FnExactBitsIn.f]
  obtain ⟨r, er, hr⟩ := szProg_ex w t a b c d 1048576 (by omega) (by omega) ha.1 hb.1 hc.1 hd.1 (fun s hs => ⟨(hd.2 s hs).2.2.1.1, (hd.2 s hs).2.2.2.1⟩)
  refine Ev.bind er ?_
  by_cases cr : r < 0
  · simp only [if_pos cr]; exact Ev.now _
  simp only [if_neg cr]
  have ok : okPg a b c d := by
    rcases hr with h | h
    · exact absurd h cr
    · exact h.2.2
  have e1 := toProg_ev w t a b c d ok
  obtain ⟨v, k1, k2⟩ := bitsIn_all w (a.map inL) (b.map inL) (by simpa using ok.1) (by simpa using ok.2.1) t c (d.map stL) (by simpa using ok.2.2.2.1) (stL_ok ok.2.2.2.2)
  refine Ev.bind e1 ?_
  refine Ev.bind k1 ?_
  refine Ev.bind e1 ?_
  refine Ev.bind k2 ?_
  simp only [bne_self_eq_false, Bool.false_eq_true, if_false]
  refine Ev.bind e1 ?_
  refine Ev.bind (eqProg_same w t a b c d ok) ?_
  simp only [if_true]
  exact Ev.now _
end Go.Proofs.Ytbjmhdoagjmmcaa.Pure
