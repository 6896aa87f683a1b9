/- FnBitsFor answers true for every code: the least power of 2 that is enough, for each drawn number; no condition. -/
import Derived.Test.YtlaliacfonfflaaPFnBitsForx5
import Derived.Test.YtlaliacfonfflaaNt
import Derived.Test.YtlaliacfonfflaaBits
set_option linter.unusedVariables false
set_option linter.unusedSimpArgs false
namespace Go.Proofs.Ytlaliacfonfflaa.Pure
open Go.RowKit Go.Proofs.Ytlaliacfonfflaa.PFnBitsFor Go.Proofs.YtlaliacfonfflaaW.PrintWords Go.Proofs.YtlaliacfonfflaaW.PrintLast Go.Proofs.YtlaliacfonfflaaW.PrintMore Go.Proofs.Ytlaliacfonfflaa.Bs

theorem l1New_l (s : List Int) (hs : s.length ≤ 4611686018427387904) (d : Nat) : ∀ (i : Nat) (h : Int), i + d = s.length → ∃ h', Ev (fun k => spec_l1New.l0 k s h (i : Int)) (s, 0, h') := by
  induction d with
  | zero =>
    intro i h hi
    refine ⟨h, Ev.step (fun k => by rw [spec_l1New.l0]) ?_⟩
    simp only [if_neg (show ¬ (i : Int) < (s.length : Int) by omega)]
    exact Ev.now _
  | succ d ih =>
    intro i h hi
    obtain ⟨h', e⟩ := ih (i + 1) (Go.bits .and .i64 (wrap64 ((wrap64 ((wrap64 (h * 181)) + (wrap64 (rd s (i : Int))))) + 11)) 1073741823) (by omega)
    refine ⟨h', Ev.step (fun k => by rw [spec_l1New.l0]) ?_⟩
    simp only [if_pos (show (i : Int) < (s.length : Int) by omega), if_pos (show 0 ≤ (i : Int) by omega), wrap_succ (show i < 9223372036854775807 by omega)]
    exact e
theorem l1New_ex (s : List Int) (hs : s.length ≤ 4611686018427387904) : ∃ h', Ev (fun k => spec_l1New.f k s) (s, 0, h') := by
  simp only [spec_l1New.f]
  exact l1New_l s hs s.length 0 _ (by omega)

theorem l1Byte_ex (s : List Int) (i h : Int) (h0 : 0 ≤ i) (h1 : i ≤ (s.length : Int)) (hs : s.length ≤ 4611686018427387904) : ∃ b i' h', spec_l1Byte.f s i h = some (b, i', h') ∧ 0 ≤ b ∧ b ≤ 255 ∧ 0 ≤ i' ∧ i' ≤ (s.length : Int) := by
  unfold spec_l1Byte.f
  by_cases c : i < (s.length : Int)
  · rw [if_pos c, if_pos h0]
    have hm := and_mask (wrap64 ((Go.bits .and .i64 (Go.bits .xor .i64 ((wrap64 ((wrap64 (h * 6364136223846793005)) + 1442695040888963407)) / 8589934592) ((wrap64 ((wrap64 (h * 6364136223846793005)) + 1442695040888963407)) / 35184372088832)) 255) + (wrap64 (rd s i)))) 255 (by decide)
    exact ⟨_, _, _, rfl, hm.1, hm.2, by rw [wrap_id (by omega) (by omega)]; omega, by rw [wrap_id (by omega) (by omega)]; omega⟩
  · rw [if_neg c]
    have hm := and_mask (Go.bits .xor .i64 ((wrap64 ((wrap64 (h * 6364136223846793005)) + 1442695040888963407)) / 8589934592) ((wrap64 ((wrap64 (h * 6364136223846793005)) + 1442695040888963407)) / 35184372088832)) 255 (by decide)
    exact ⟨_, _, _, rfl, hm.1, hm.2, h0, h1⟩
theorem l1Below_ex (s : List Int) (hs : s.length ≤ 4611686018427387904) (i h a : Int) (h0 : 0 ≤ i) (h1 : i ≤ (s.length : Int)) : ∃ b i' h', spec_l1Below.f s i h a = some (b, i', h') ∧ 0 ≤ b ∧ (0 < a → b < a) ∧ (a ≤ 0 → b = 0) ∧ 0 ≤ i' ∧ i' ≤ (s.length : Int) := by
  unfold spec_l1Below.f
  by_cases c : a ≤ 0
  · rw [if_pos c]
    exact ⟨0, i, h, rfl, by omega, by omega, by omega, h0, h1⟩
  rw [if_neg c]
  obtain ⟨b1, i1, g1, e1, x1, y1, z1, w1⟩ := l1Byte_ex s i h h0 h1 hs
  by_cases c2 : a ≤ 256
  · rw [if_pos c2, e1]
    simp only [Option.bind_some, if_neg (show ¬ a = 0 by omega)]
    have hm := Int.emod_lt_of_pos b1 (show 0 < a by omega)
    have hn := Int.emod_nonneg b1 (show a ≠ 0 by omega)
    rw [← Int.tmod_eq_emod_of_nonneg x1] at hm hn
    exact ⟨_, _, _, rfl, hn, fun _ => hm, by omega, z1, w1⟩
  · obtain ⟨b2, i2, g2, e2, x2, y2, z2, w2⟩ := l1Byte_ex s i1 g1 z1 w1 hs
    obtain ⟨b3, i3, g3, e3, x3, y3, z3, w3⟩ := l1Byte_ex s i2 g2 z2 w2 hs
    obtain ⟨b4, i4, g4, e4, x4, y4, z4, w4⟩ := l1Byte_ex s i3 g3 z3 w3 hs
    rw [if_neg c2]
    simp only [e1, e2, e3, e4, Option.bind_some, if_neg (show ¬ a = 0 by omega)]
    have hw : wrap64 ((wrap64 ((wrap64 ((wrap64 (b1 * 16777216)) + (wrap64 (b2 * 65536)))) + (wrap64 (b3 * 256)))) + b4) = b1 * 16777216 + b2 * 65536 + b3 * 256 + b4 := by
      rw [wrap_id (x := b1 * 16777216) (by omega) (by omega), wrap_id (x := b2 * 65536) (by omega) (by omega), wrap_id (x := b3 * 256) (by omega) (by omega), wrap_id (x := b1 * 16777216 + b2 * 65536) (by omega) (by omega), wrap_id (x := b1 * 16777216 + b2 * 65536 + b3 * 256) (by omega) (by omega), wrap_id (by omega) (by omega)]
    rw [hw]
    have hm := Int.emod_lt_of_pos (b1 * 16777216 + b2 * 65536 + b3 * 256 + b4) (show 0 < a by omega)
    have hn := Int.emod_nonneg (b1 * 16777216 + b2 * 65536 + b3 * 256 + b4) (show a ≠ 0 by omega)
    rw [← Int.tmod_eq_emod_of_nonneg (show 0 ≤ b1 * 16777216 + b2 * 65536 + b3 * 256 + b4 by omega)] at hm hn
    exact ⟨_, _, _, rfl, hn, fun _ => hm, by omega, z4, w4⟩
theorem l1Once_ex (s : List Int) (hs : s.length ≤ 4611686018427387904) (i h a : Int) (h0 : 0 ≤ i) (h1 : i ≤ (s.length : Int)) : ∃ b i' h', spec_l1Once.f s i h a = some (b, i', h') ∧ 0 ≤ i' ∧ i' ≤ (s.length : Int) := by
  obtain ⟨b, i', h', e, _, _, _, x, y⟩ := l1Below_ex s hs i h a h0 h1
  unfold spec_l1Once.f
  simp only [e, Option.bind_some]
  exact ⟨_, _, _, rfl, x, y⟩

theorem l1Limb_eq (a : List Int) (i : Nat) : spec_l1Limb.f a (i : Int) = some (lm a (i : Int)) := by
  unfold spec_l1Limb.f lm
  split
  · rw [if_pos (by omega)]
  · rfl

theorem l1Trim_l (a : List Int) (ha : a.length < 17592186044416) (n : Nat) : n ≤ a.length → Ev (fun k => spec_l1Trim.l0 k a (n : Int)) (tr (a.take n)) := by
  induction n with
  | zero =>
    intro hn
    refine Ev.step (fun k => by rw [spec_l1Trim.l0]) ?_
    simp only [if_neg (show ¬ ((0 : Nat) : Int) > 0 by omega), Option.bind_some]
    have h1 : ((0 : Nat) : Int) ≤ (a.length : Int) := by omega
    simp only [if_pos (show 0 ≤ ((0 : Nat) : Int) by omega), if_pos h1, Int.toNat_natCast, List.take_zero, List.length_nil, if_pos (show 0 + 0 < 17592186044416 by omega), List.append_nil]
    exact (Ev.now _).cast (by simp [tr])
  | succ n ih =>
    intro hn
    refine Ev.step (fun k => by rw [spec_l1Trim.l0]) ?_
    simp only [if_pos (show ((n + 1 : Nat) : Int) > 0 by omega), wrap_pred (show n < 9223372036854775807 by omega), if_pos (show 0 ≤ (n : Int) by omega), if_pos (show (n : Int) < (a.length : Int) by omega)]
    by_cases e : rd a (n : Int) = 0
    · simp only [if_pos e]
      exact (ih (by omega)).cast (by rw [take_rd a n (by omega), e, tr_snoc0])
    · have hl : ([] : List Int).length + (a.take (n + 1)).length < 17592186044416 := by simp; omega
      simp only [if_neg e, Option.bind_some, if_pos (show 0 ≤ ((n + 1 : Nat) : Int) by omega), if_pos (show ((n + 1 : Nat) : Int) ≤ (a.length : Int) by omega), Int.toNat_natCast, if_pos hl]
      exact (Ev.now _).cast (by rw [take_rd a n (by omega), tr_snoc e]; simp)
theorem l1Trim_ev (a : List Int) (ha : a.length < 17592186044416) : Ev (fun k => spec_l1Trim.f k a) (tr a) := by
  simp only [spec_l1Trim.f]
  exact (l1Trim_l a ha a.length (Nat.le_refl _)).cast (by rw [List.take_length])
theorem l1Carry_end (x : List Int) (c : Nat) : ∀ (i : Nat) (out : List Int), x.length ≤ i → i + c ≤ 4611686018427387904 → out.length + c < 17592186044416 → Ev (fun k => spec_l1Carry.l0 k x out (c : Int) (i : Int)) (tr (out ++ dg c)) := by
  induction c using Nat.strongRecOn with
  | ind c ih =>
    intro i out hi hic ho
    refine Ev.step (fun k => by rw [spec_l1Carry.l0]) ?_
    simp only [if_neg (show ¬ (i : Int) < (x.length : Int) by omega)]
    rcases Nat.eq_zero_or_pos c with h | h
    · subst h
      simp only [if_neg (show ¬ ((0 : Nat) : Int) > 0 by omega)]
      refine Ev.bind (l1Trim_ev out (by omega)) ?_
      exact (Ev.now _).cast (by simp [dg_zero])
    · have h0 : lm x (i : Int) = 0 := by unfold lm; rw [if_neg (by omega)]
      simp only [if_pos (show (c : Int) > 0 by omega), l1Limb_eq, h0, Option.bind_some, if_pos (show out.length < 17592186044416 by omega), wrap_succ (show i < 9223372036854775807 by omega), Int.zero_add, wrap_id (show -9223372036854775808 ≤ (c : Int) by omega) (show (c : Int) ≤ 9223372036854775807 by omega), tmod4, tdiv4, wrap_id (show -9223372036854775808 ≤ ((c / 10000 : Nat) : Int) by omega) (show ((c / 10000 : Nat) : Int) ≤ 9223372036854775807 by omega)]
      refine (ih (c / 10000) (by omega) (i + 1) _ (by omega) (by omega) (by simp; omega)).cast ?_
      rw [dg_pos h]; simp
theorem l1Carry_l (x : List Int) (hx : ∀ y ∈ x, 0 ≤ y ∧ y ≤ 1000000000000) (hl : x.length ≤ 1000000000) (d : Nat) : ∀ (i c : Nat) (out : List Int), i + d = x.length → c ≤ 1000000000000 → out.length ≤ i → Ev (fun k => spec_l1Carry.l0 k x out (c : Int) (i : Int)) (tr (out ++ crr (x.drop i) c)) := by
  induction d with
  | zero =>
    intro i c out hi hc ho
    rw [List.drop_of_length_le (show x.length ≤ i by omega), crr]
    exact l1Carry_end x c i out (by omega) (by omega) (by omega)
  | succ d ih =>
    intro i c out hi hc ho
    refine Ev.step (fun k => by rw [spec_l1Carry.l0]) ?_
    have hm := hx (rd x (i : Int)) (by rw [rd_lt x i (by omega)]; exact List.getElem_mem _)
    have h0 : lm x (i : Int) = rd x (i : Int) := by unfold lm; rw [if_pos (by omega)]
    obtain ⟨y, hy⟩ := Int.eq_ofNat_of_zero_le hm.1
    have hs : wrap64 (rd x (i : Int) + (c : Int)) = ((y + c : Nat) : Int) := by rw [hy, wrap_id (by omega) (by omega)]; omega
    simp only [if_pos (show (i : Int) < (x.length : Int) by omega), l1Limb_eq, h0, Option.bind_some, if_pos (show out.length < 17592186044416 by omega), wrap_succ (show i < 9223372036854775807 by omega), hs, tmod4, tdiv4, wrap_id (show -9223372036854775808 ≤ (((y + c) / 10000 : Nat) : Int) by omega) (show (((y + c) / 10000 : Nat) : Int) ≤ 9223372036854775807 by omega)]
    refine (ih (i + 1) _ _ (by omega) (by omega) (by simp; omega)).cast ?_
    rw [drop_rd x i (by omega), crr, hy]; simp
theorem l1Carry_ev (x : List Int) (hx : ∀ y ∈ x, 0 ≤ y ∧ y ≤ 1000000000000) (hl : x.length ≤ 1000000000) : Ev (fun k => spec_l1Carry.f k x) (dg (nv x)) := by
  simp only [spec_l1Carry.f]
  refine (l1Carry_l x hx hl x.length 0 0 [] (by omega) (by omega) (by simp)).cast ?_
  rw [List.nil_append, List.drop_zero, tr_dg (crr_ok _ _), crr_nv, Nat.add_zero]

theorem l1DrawNat_l (s : List Int) (hs : s.length ≤ 4611686018427387904) (d : Nat) : ∀ (x : List Int) (i h : Int), x.length + d ≤ 1000 → 0 ≤ i → i ≤ (s.length : Int) → ∃ r i' h', Ev (fun k => spec_l1DrawNat.l0 k x (d : Int) s i h) (r, i', h') ∧ r.length ≤ x.length + d ∧ 0 ≤ i' ∧ i' ≤ (s.length : Int) := by
  induction d with
  | zero =>
    intro x i h hd h0 h1
    refine ⟨tr x, i, h, Ev.step (fun k => by rw [spec_l1DrawNat.l0]) ?_, tr_len x, h0, h1⟩
    simp only [if_neg (show ¬ ((0 : Nat) : Int) > 0 by omega)]
    refine Ev.bind (l1Trim_ev x (by omega)) ?_
    exact Ev.now _
  | succ d ih =>
    intro x i h hd h0 h1
    obtain ⟨b, i1, g1, e1, p1, q1⟩ := l1Once_ex s hs i h 3 h0 h1
    by_cases c : b = true
    · obtain ⟨v, i2, g2, e2, v0, v1, _, p2, q2⟩ := l1Below_ex s hs i1 g1 4 p1 q1
      have v2 := v1 (by omega)
      obtain ⟨r, i', h', er, hl, p, q⟩ := ih (x ++ [rd ([0, 9999, 1, 5000] : List Int) v]) i2 g2 (by simp; omega) p2 q2
      refine ⟨r, i', h', Ev.step (fun k => by rw [spec_l1DrawNat.l0]) ?_, by simp at hl; omega, p, q⟩
      simp only [if_pos (show ((d + 1 : Nat) : Int) > 0 by omega), e1, e2, Option.bind_some, if_pos c, if_pos v0, if_pos (show v < (([0, 9999, 1, 5000] : List Int).length : Int) from by simpa using v2), if_pos (show x.length < 17592186044416 by omega), wrap_pred (show d < 9223372036854775807 by omega)]
      exact er
    · obtain ⟨v, i2, g2, e2, v0, v1, _, p2, q2⟩ := l1Below_ex s hs i1 g1 10000 p1 q1
      obtain ⟨r, i', h', er, hl, p, q⟩ := ih (x ++ [v]) i2 g2 (by simp; omega) p2 q2
      refine ⟨r, i', h', Ev.step (fun k => by rw [spec_l1DrawNat.l0]) ?_, by simp at hl; omega, p, q⟩
      simp only [if_pos (show ((d + 1 : Nat) : Int) > 0 by omega), e1, e2, Option.bind_some, if_neg c, if_pos (show x.length < 17592186044416 by omega), wrap_pred (show d < 9223372036854775807 by omega)]
      exact er
theorem l1DrawNat_ex (s : List Int) (hs : s.length ≤ 4611686018427387904) (i h : Int) (h0 : 0 ≤ i) (h1 : i ≤ (s.length : Int)) : ∃ r i' h', Ev (fun k => spec_l1DrawNat.f k s i h) (r, i', h') ∧ r.length ≤ 4 ∧ 0 ≤ i' ∧ i' ≤ (s.length : Int) := by
  obtain ⟨v, i1, g1, e1, v0, v1, _, p1, q1⟩ := l1Below_ex s hs i h 5 h0 h1
  have v2 := v1 (by omega)
  obtain ⟨n, rfl⟩ := Int.eq_ofNat_of_zero_le v0
  obtain ⟨r, i', h', er, hl, p, q⟩ := l1DrawNat_l s hs n [] i1 g1 (by simp; omega) p1 q1
  refine ⟨r, i', h', ?_, by simp at hl; omega, p, q⟩
  simp only [spec_l1DrawNat.f, e1, Option.bind_some]
  exact er

theorem l1Odd_ex (s : List Int) (hs : s.length ≤ 4611686018427387904) (i h : Int) (h0 : 0 ≤ i) (h1 : i ≤ (s.length : Int)) : ∃ r i' h', spec_l1Odd.f s i h = some (r, i', h') ∧ 0 ≤ i' ∧ i' ≤ (s.length : Int) := by
  obtain ⟨v, i1, g1, e1, v0, v1, _, p1, q1⟩ := l1Below_ex s hs i h 10 h0 h1
  have v2 := v1 (by omega)
  unfold spec_l1Odd.f
  simp only [Option.bind_some, e1, if_pos v0]
  rw [if_pos (by simpa using v2)]
  exact ⟨_, _, _, rfl, p1, q1⟩
theorem l1DrawAny_l0 (s : List Int) (hs : s.length ≤ 4611686018427387904) (d : Nat) : ∀ (x : List Int) (i h : Int), x.length + d = 101 → 0 ≤ i → i ≤ (s.length : Int) → ∃ r i' h', Ev (fun k => spec_l1DrawAny.l0 k x s i h) (r, i', h') ∧ r.length ≤ 101 ∧ 0 ≤ i' ∧ i' ≤ (s.length : Int) := by
  induction d with
  | zero =>
    intro x i h hd h0 h1
    obtain ⟨v, i1, g1, e1, v0, v1, _, p1, q1⟩ := l1Below_ex s hs i h 2 h0 h1
    have v2 := v1 (by omega)
    refine ⟨x, i1, g1, Ev.step (fun k => by rw [spec_l1DrawAny.l0]) ?_, by omega, p1, q1⟩
    simp only [e1, Option.bind_some, wrap_id (show -9223372036854775808 ≤ 100 + v by omega) (show 100 + v ≤ 9223372036854775807 by omega), if_neg (show ¬ (x.length : Int) < 100 + v by omega)]
    exact Ev.now _
  | succ d ih =>
    intro x i h hd h0 h1
    obtain ⟨v, i1, g1, e1, v0, v1, _, p1, q1⟩ := l1Below_ex s hs i h 2 h0 h1
    have v2 := v1 (by omega)
    by_cases c : (x.length : Int) < 100 + v
    · obtain ⟨r, i', h', er, hl, p, q⟩ := ih (x ++ [9999]) i1 g1 (by simp; omega) p1 q1
      refine ⟨r, i', h', Ev.step (fun k => by rw [spec_l1DrawAny.l0]) ?_, hl, p, q⟩
      simp only [e1, Option.bind_some, wrap_id (show -9223372036854775808 ≤ 100 + v by omega) (show 100 + v ≤ 9223372036854775807 by omega), if_pos c, if_pos (show x.length < 17592186044416 by omega)]
      exact er
    · refine ⟨x, i1, g1, Ev.step (fun k => by rw [spec_l1DrawAny.l0]) ?_, by omega, p1, q1⟩
      simp only [e1, Option.bind_some, wrap_id (show -9223372036854775808 ≤ 100 + v by omega) (show 100 + v ≤ 9223372036854775807 by omega), if_neg c]
      exact Ev.now _
theorem l1DrawAny_l1 (s : List Int) (hs : s.length ≤ 4611686018427387904) (d : Nat) : ∀ (x : List Int) (i h : Int), x.length + d = 51 → 0 ≤ i → i ≤ (s.length : Int) → ∃ r i' h', Ev (fun k => spec_l1DrawAny.l1 k x s i h) (r, i', h') ∧ r.length ≤ 51 ∧ 0 ≤ i' ∧ i' ≤ (s.length : Int) := by
  induction d with
  | zero =>
    intro x i h hd h0 h1
    obtain ⟨v, i1, g1, e1, v0, v1, _, p1, q1⟩ := l1Below_ex s hs i h 2 h0 h1
    have v2 := v1 (by omega)
    refine ⟨x, i1, g1, Ev.step (fun k => by rw [spec_l1DrawAny.l1]) ?_, by omega, p1, q1⟩
    simp only [e1, Option.bind_some, wrap_id (show -9223372036854775808 ≤ 50 + v by omega) (show 50 + v ≤ 9223372036854775807 by omega), if_neg (show ¬ (x.length : Int) < 50 + v by omega)]
    exact Ev.now _
  | succ d ih =>
    intro x i h hd h0 h1
    obtain ⟨v, i1, g1, e1, v0, v1, _, p1, q1⟩ := l1Below_ex s hs i h 2 h0 h1
    have v2 := v1 (by omega)
    by_cases c : (x.length : Int) < 50 + v
    · obtain ⟨u, i2, g2, e2, _, _, _, p2, q2⟩ := l1Below_ex s hs i1 g1 9999 p1 q1
      obtain ⟨r, i', h', er, hl, p, q⟩ := ih (x ++ [wrap64 (1 + u)]) i2 g2 (by simp; omega) p2 q2
      refine ⟨r, i', h', Ev.step (fun k => by rw [spec_l1DrawAny.l1]) ?_, hl, p, q⟩
      simp only [e1, e2, Option.bind_some, wrap_id (show -9223372036854775808 ≤ 50 + v by omega) (show 50 + v ≤ 9223372036854775807 by omega), if_pos c, if_pos (show x.length < 17592186044416 by omega)]
      exact er
    · refine ⟨x, i1, g1, Ev.step (fun k => by rw [spec_l1DrawAny.l1]) ?_, by omega, p1, q1⟩
      simp only [e1, Option.bind_some, wrap_id (show -9223372036854775808 ≤ 50 + v by omega) (show 50 + v ≤ 9223372036854775807 by omega), if_neg c]
      exact Ev.now _
theorem l1DrawAny_ex (s : List Int) (hs : s.length ≤ 4611686018427387904) (i h : Int) (h0 : 0 ≤ i) (h1 : i ≤ (s.length : Int)) : ∃ r i' h', Ev (fun k => spec_l1DrawAny.f k s i h) (r, i', h') ∧ r.length ≤ 101 ∧ 0 ≤ i' ∧ i' ≤ (s.length : Int) := by
  obtain ⟨x, i1, g1, e1, hx, p1, q1⟩ := l1DrawNat_ex s hs i h h0 h1
  obtain ⟨b, i2, g2, e2, p2, q2⟩ := l1Once_ex s hs i1 g1 8 p1 q1
  simp only [spec_l1DrawAny.f]
  by_cases c : b = true
  · obtain ⟨v, i3, g3, e3, v0, v1, _, p3, q3⟩ := l1Below_ex s hs i2 g2 4 p2 q2
    have v2 := v1 (by omega)
    have hv : v = 0 ∨ v = 1 ∨ v = 2 ∨ v = 3 := by omega
    rcases hv with rfl | rfl | rfl | rfl
    · refine ⟨x ++ [0], i3, g3, Ev.bind e1 ?_, by simp; omega, p3, q3⟩
      simp only [e2, e3, Option.bind_some, if_pos c, if_true, if_pos (show x.length < 17592186044416 by omega)]
      exact Ev.now _
    · obtain ⟨o, i4, g4, e4, p4, q4⟩ := l1Odd_ex s hs i3 g3 p3 q3
      obtain ⟨u, i5, g5, e5, u0, u1, _, p5, q5⟩ := l1Below_ex s hs i4 g4 3 p4 q4
      have u2 := u1 (by omega)
      refine ⟨x ++ [rd ([-1, 10000, o] : List Int) u], i5, g5, Ev.bind e1 ?_, by simp; omega, p5, q5⟩
      simp only [e2, e3, e4, e5, Option.bind_some, if_pos c, if_neg (show ¬ (1 : Int) = 0 by omega), if_true, if_pos u0, if_pos (show u < (([-1, 10000, o] : List Int).length : Int) from by simpa using u2), if_pos (show x.length < 17592186044416 by omega)]
      exact Ev.now _
    · obtain ⟨r, i', h', er, hl, p, q⟩ := l1DrawAny_l0 s hs (101 - x.length) x i3 g3 (by omega) p3 q3
      refine ⟨r, i', h', Ev.bind e1 ?_, hl, p, q⟩
      simp only [e2, e3, Option.bind_some, if_pos c, if_neg (show ¬ (2 : Int) = 0 by omega), if_neg (show ¬ (2 : Int) = 1 by omega), if_true]
      exact er
    · obtain ⟨r, i', h', er, hl, p, q⟩ := l1DrawAny_l1 s hs (51 - x.length) x i3 g3 (by omega) p3 q3
      refine ⟨r, i', h', Ev.bind e1 ?_, by omega, p, q⟩
      simp only [e2, e3, Option.bind_some, if_pos c, if_neg (show ¬ (3 : Int) = 0 by omega), if_neg (show ¬ (3 : Int) = 1 by omega), if_neg (show ¬ (3 : Int) = 2 by omega), if_true]
      exact er
  · refine ⟨x, i2, g2, Ev.bind e1 ?_, by omega, p2, q2⟩
    simp only [e2, Option.bind_some, if_neg c]
    exact Ev.now _

theorem l1In_eq (a b c : Int) : spec_l1In.f a b c = some (decide (b ≤ a) && decide (a ≤ c)) := by
  unfold spec_l1In.f
  by_cases h : a ≥ b
  · rw [if_pos h]; simp [show b ≤ a from h]
  · rw [if_neg h]; simp [show ¬ b ≤ a from h]
theorem specNatOk_l (x : List Int) (hx : x.length ≤ 4611686018427387904) (d : Nat) : ∀ i : Nat, i + d = x.length → Ev (fun k => spec_NatOk.l0 k x (i : Int)) (((x.drop i).all fun y => decide (0 ≤ y) && decide (y ≤ 9999)) && decide (x.length ≤ 100) && (x.isEmpty || rd x ((x.length : Int) - 1) != 0)) := by
  induction d with
  | zero =>
    intro i hi
    refine Ev.step (fun k => by rw [spec_NatOk.l0]) ?_
    simp only [if_neg (show ¬ (i : Int) < (x.length : Int) by omega)]
    rw [List.drop_of_length_le (show x.length ≤ i by omega)]
    by_cases h1 : x.length ≤ 100
    · simp only [if_pos (show (x.length : Int) ≤ 100 by omega)]
      by_cases h2 : x.length = 0
      · simp only [if_pos (show (x.length : Int) = 0 by omega)]
        exact (Ev.now true).cast (by simp [List.length_eq_zero_iff.1 h2])
      · have hw : wrap64 ((x.length : Int) - 1) = (x.length : Int) - 1 := wrap_id (by omega) (by omega)
        simp only [if_neg (show ¬ (x.length : Int) = 0 by omega), hw, if_pos (show 0 ≤ (x.length : Int) - 1 by omega), if_pos (show (x.length : Int) - 1 < (x.length : Int) by omega)]
        have hne : x.isEmpty = false := by cases x; simp at h2; rfl
        exact (Ev.now _).cast (by simp [h1, hne])
    · simp only [if_neg (show ¬ (x.length : Int) ≤ 100 by omega)]
      exact (Ev.now false).cast (by simp [h1])
  | succ d ih =>
    intro i hi
    refine Ev.step (fun k => by rw [spec_NatOk.l0]) ?_
    simp only [if_pos (show (i : Int) < (x.length : Int) by omega), if_pos (show 0 ≤ (i : Int) by omega), l1In_eq, Option.bind_some, wrap_succ (show i < 9223372036854775807 by omega)]
    rw [drop_rd x i (by omega), List.all_cons]
    by_cases h : (decide (0 ≤ rd x (i : Int)) && decide (rd x (i : Int) ≤ 9999)) = true
    · simp only [if_pos h]
      exact (ih (i + 1) (by omega)).cast (by rw [h]; simp)
    · simp only [if_neg h]
      exact (Ev.now false).cast (by rw [Bool.not_eq_true] at h; rw [h]; simp)
theorem specNatOk_ev (x : List Int) (hx : x.length ≤ 4611686018427387904) : Ev (fun k => spec_NatOk.f k x) (nok x) := by
  simp only [spec_NatOk.f]
  exact (specNatOk_l x hx x.length 0 (by omega)).cast (by simp [nok])

theorem l1Both_ev (a b : List Int) (ha : a.length ≤ 1048576) (hb : b.length ≤ 1048576) : Ev (fun k => spec_l1Both.f k a b) (nok a && nok b) := by
  simp only [spec_l1Both.f]
  refine Ev.bind (specNatOk_ev a (by omega)) ?_
  by_cases h : nok a = true
  · simp only [h, if_true]
    refine Ev.bind (specNatOk_ev b (by omega)) ?_
    exact (Ev.now _).cast (by simp)
  · rw [Bool.not_eq_true] at h
    simp only [h, Bool.false_eq_true, if_false]
    exact (Ev.now _).cast (by simp)

theorem specAdd_l (a b : List Int) (ha : a.length ≤ 1048576) (hb : b.length ≤ 1048576) (d : Nat) : ∀ (i m n : Nat) (out : List Int), m + n ≤ d → a.drop i = dg m → b.drop i = dg n → i ≤ 1048576 → out.length = i → (∀ y ∈ out, 0 ≤ y ∧ y ≤ 19998) → (dg (nv (out ++ sm m n))).length ≤ 1000000 → Ev (fun k => spec_AddNat.l0 k a b out (i : Int)) (if nok (dg (nv (out ++ sm m n))) = true then (dg (nv (out ++ sm m n)), true) else ([], false)) := by
  induction d using Nat.strongRecOn with
  | ind d ih =>
    intro i m n out hd hm hn hi ho hy hT
    have hstep : Ev (fun k => spec_AddNat.j1 k a b out (i : Int) (decide (0 < m ∨ 0 < n))) (if nok (dg (nv (out ++ sm m n))) = true then (dg (nv (out ++ sm m n)), true) else ([], false)) := by
      refine Ev.step (fun k => by rw [spec_AddNat.j1]) ?_
      by_cases h : 0 < m ∨ 0 < n
      · have hil : i < 1048576 := by rw [← dg_lt hm, ← dg_lt hn] at h; omega
        have hs : wrap64 (((m % 10000 : Nat) : Int) + ((n % 10000 : Nat) : Int)) = ((m % 10000 + n % 10000 : Nat) : Int) := by rw [wrap_id (by omega) (by omega)]; omega
        simp only [decide_eq_true h, if_true, l1Limb_eq, dg_lm hm, dg_lm hn, Option.bind_some, if_pos (show out.length < 17592186044416 by omega), wrap_succ (show i < 9223372036854775807 by omega), hs]
        have heq : (out ++ [((m % 10000 + n % 10000 : Nat) : Int)]) ++ sm (m / 10000) (n / 10000) = out ++ sm m n := by rw [sm_pos (m := m) (n := n) (by omega)]; simp
        rw [← heq] at hT ⊢
        refine ih (m / 10000 + n / 10000) (by omega) (i + 1) _ _ _ (Nat.le_refl _) (dg_step hm) (dg_step hn) (by omega) (by simp; omega) (fun y h' => ?_) hT
        rcases List.mem_append.1 h' with h' | h'
        · exact hy y h'
        · rw [List.mem_singleton] at h'; subst h'; omega
      · simp only [decide_eq_false h, Bool.false_eq_true, if_false]
        obtain rfl : m = 0 := by omega
        obtain rfl : n = 0 := by omega
        rw [sm_zero, List.append_nil] at hT ⊢
        refine Ev.bind (l1Carry_ev out (fun y h' => by have := hy y h'; omega) (by omega)) ?_
        refine Ev.bind (specNatOk_ev _ (by omega)) ?_
        by_cases e : nok (dg (nv out)) = true
        · simp only [if_pos e]; exact Ev.now _
        · simp only [if_neg e]; exact Ev.now _
    refine Ev.step (fun k => by rw [spec_AddNat.l0]) ?_
    by_cases h : (i : Int) < (a.length : Int)
    · simp only [if_pos h]
      have h' : 0 < m := (dg_lt hm).1 (by omega)
      rw [decide_eq_true (Or.inl h')] at hstep
      exact hstep
    · simp only [if_neg h]
      have h' : ¬ 0 < m := fun e => h (by have := (dg_lt hm).2 e; omega)
      have e : decide (0 < m ∨ 0 < n) = decide ((i : Int) < (b.length : Int)) := by
        have := dg_lt hn
        simp only [decide_eq_decide]; omega
      rw [e] at hstep
      exact hstep
theorem specAdd_ev (a b : List Int) (ha : a.length ≤ 1048576) (hb : b.length ≤ 1048576) : Ev (fun k => spec_AddNat.f k a b) (addR a b) := by
  simp only [spec_AddNat.f]
  refine Ev.bind (l1Both_ev a b ha hb) ?_
  by_cases h : (nok a && nok b) = true
  · simp only [if_pos h]
    rw [Bool.and_eq_true] at h
    obtain ⟨m, rfl, hm⟩ := nok_ex h.1
    obtain ⟨n, rfl, hn⟩ := nok_ex h.2
    have hs := sm_nv (m + n) m n (Nat.le_refl _)
    have hT := add_len hm hn
    refine (specAdd_l (dg m) (dg n) ha hb (m + n) 0 m n [] (Nat.le_refl _) rfl rfl (by omega) rfl (by simp) (by rw [List.nil_append, hs]; omega)).cast ?_
    rw [List.nil_append, hs, addR_dg h.1 h.2, nok_dg]
    by_cases e : (dg (m + n)).length ≤ 100
    · rw [if_pos (by simpa using e), if_pos e]
    · rw [if_neg (by simpa using e), if_neg e]
  · simp only [if_neg h]
    exact (Ev.now _).cast (by rw [addR, if_neg (by simp at h ⊢; exact fun h1 h2 => by simp [h h1] at h2)])

theorem dg_drop (m : Nat) (j : Nat) : (dg m).drop j = dg (m / 10000 ^ j) := by
  induction j with
  | zero => simp
  | succ j ih => rw [dg_step ih, Nat.pow_succ, Nat.div_div_eq_div_mul]
theorem dg_lm' (m j : Nat) : lm (dg m) (j : Int) = ((m / 10000 ^ j % 10000 : Nat) : Int) := dg_lm (dg_drop m j)
/-- -1, 0 or 1. -/
def cmpN (m n : Nat) : Int := if m < n then -1 else if m > n then 1 else 0
theorem up_lt {m n j : Nat} (h : m / 10000 ^ (j + 1) = n / 10000 ^ (j + 1)) (hl : m / 10000 ^ j % 10000 < n / 10000 ^ j % 10000) : m < n := by
  rcases Nat.lt_or_ge m n with h1 | h1
  · exact h1
  · exfalso
    have h2 : n / 10000 ^ j ≤ m / 10000 ^ j := Nat.div_le_div_right h1
    rw [Nat.pow_succ, ← Nat.div_div_eq_div_mul, ← Nat.div_div_eq_div_mul] at h
    omega
theorem up_eq {m n j : Nat} (h : m / 10000 ^ (j + 1) = n / 10000 ^ (j + 1)) (hl : m / 10000 ^ j % 10000 = n / 10000 ^ j % 10000) : m / 10000 ^ j = n / 10000 ^ j := by
  rw [Nat.pow_succ, ← Nat.div_div_eq_div_mul, ← Nat.div_div_eq_div_mul] at h
  omega
theorem top_zero {m j : Nat} (h : (dg m).length ≤ j) : m / 10000 ^ j = 0 := Nat.div_eq_of_lt (dg_len.1 h)
def cmpR (a b : List Int) : Int := if nok a = true ∧ nok b = true then cmpN (nv a) (nv b) else 2
theorem pw_len {j : Nat} (h : j ≤ 1000) : (dg (2 ^ j)).length ≤ 100 := by
  rw [dg_len]
  exact Nat.lt_of_le_of_lt (Nat.pow_le_pow_right (by omega) h) pow_room
theorem pw_nok {j : Nat} (h : j ≤ 1000) : nok (dg (2 ^ j)) = true := by rw [nok_dg]; exact decide_eq_true (pw_len h)
theorem pw_twice (j : Nat) : 2 ^ j + 2 ^ j = 2 ^ (j + 1) := by rw [Nat.pow_succ]; omega
theorem dg_one : ([1] : List Int) = dg (2 ^ 0) := by rw [dg_pos (by omega)]; simp [dg_zero]

theorem specPower_l (d : Nat) : ∀ j : Nat, j + d ≤ 1000 → Ev (fun k => spec_PowerNat.l0 k (d : Int) (dg (2 ^ j))) (dg (2 ^ (j + d)), true) := by
  induction d with
  | zero =>
    intro j hj
    refine Ev.step (fun k => by rw [spec_PowerNat.l0]) ?_
    simp only [if_neg (show ¬ ((0 : Nat) : Int) > 0 by omega)]
    exact Ev.now _
  | succ d ih =>
    intro j hj
    refine Ev.step (fun k => by rw [spec_PowerNat.l0]) ?_
    have h1 := pw_len (show j ≤ 1000 by omega)
    simp only [if_pos (show ((d + 1 : Nat) : Int) > 0 by omega), wrap_pred (show d < 9223372036854775807 by omega)]
    refine Ev.bind (specAdd_ev _ _ (by omega) (by omega)) ?_
    rw [addR_dg (pw_nok (by omega)) (pw_nok (by omega)), pw_twice, if_pos (pw_len (show j + 1 ≤ 1000 by omega))]
    exact (ih (j + 1) (by omega)).cast (by rw [show j + 1 + d = j + (d + 1) by omega])
def powR (a : Int) : List Int × Bool := if 0 ≤ a ∧ a ≤ 1000 then (dg (2 ^ a.toNat), true) else ([], false)
theorem specPower_ev (a : Int) : Ev (fun k => spec_PowerNat.f k a) (powR a) := by
  simp only [spec_PowerNat.f, l1In_eq, Option.bind_some]
  by_cases h : 0 ≤ a ∧ a ≤ 1000
  · obtain ⟨n, rfl⟩ := Int.eq_ofNat_of_zero_le h.1
    have e : (decide (0 ≤ (n : Int)) && decide ((n : Int) ≤ 1000)) = true := by simp; omega
    simp only [e, if_true, dg_one]
    exact (specPower_l n 0 (by omega)).cast (by rw [powR, if_pos h]; simp)
  · have e : (decide (0 ≤ a) && decide (a ≤ 1000)) = false := by simp; omega
    simp only [e, Bool.false_eq_true, if_false]
    exact (Ev.now _).cast (by rw [powR, if_neg h])

theorem l1Less_l (m n : Nat) (hm : (dg m).length ≤ 1048576) (hl : (dg m).length = (dg n).length) (j : Nat) : j ≤ (dg m).length → m / 10000 ^ j = n / 10000 ^ j → Ev (fun k => spec_l1Less.l0 k (dg m) (dg n) ((j : Int) - 1)) (decide (m < n)) := by
  induction j with
  | zero =>
    intro hj h
    refine Ev.step (fun k => by rw [spec_l1Less.l0]) ?_
    simp only [if_neg (show ¬ ((0 : Nat) : Int) - 1 ≥ 0 by omega)]
    exact (Ev.now _).cast (by simp at h; subst h; simp)
  | succ j ih =>
    intro hj h
    refine Ev.step (fun k => by rw [spec_l1Less.l0]) ?_
    have e : ((j + 1 : Nat) : Int) - 1 = (j : Int) := by omega
    simp only [e, if_pos (show (j : Int) ≥ 0 by omega), if_pos (show 0 ≤ (j : Int) by omega), if_pos (show (j : Int) < ((dg m).length : Int) by omega), if_pos (show (j : Int) < ((dg n).length : Int) by omega), dg_rd (dg_drop m j), dg_rd (dg_drop n j)]
    by_cases h1 : m / 10000 ^ j % 10000 = n / 10000 ^ j % 10000
    · simp only [h1, if_true, wrap_id (show -9223372036854775808 ≤ (j : Int) - 1 by omega) (show (j : Int) - 1 ≤ 9223372036854775807 by omega)]
      exact ih (by omega) (up_eq h h1)
    · simp only [if_neg (show ¬ ((m / 10000 ^ j % 10000 : Nat) : Int) = ((n / 10000 ^ j % 10000 : Nat) : Int) by omega)]
      refine (Ev.now _).cast ?_
      rcases Nat.lt_or_gt_of_ne h1 with h2 | h2
      · rw [decide_eq_true (up_lt h h2), decide_eq_true (by omega)]
      · have := up_lt h.symm h2
        rw [decide_eq_false (by omega), decide_eq_false (by omega)]
theorem l1Less_ev (m n : Nat) (hm : (dg m).length ≤ 1048576) : Ev (fun k => spec_l1Less.f k (dg m) (dg n)) (decide (m < n)) := by
  simp only [spec_l1Less.f]
  by_cases hl : (dg m).length = (dg n).length
  · simp only [if_pos (show ((dg m).length : Int) = ((dg n).length : Int) by omega), wrap_id (show -9223372036854775808 ≤ ((dg m).length : Int) - 1 by omega) (show ((dg m).length : Int) - 1 ≤ 9223372036854775807 by omega)]
    exact l1Less_l m n hm hl _ (Nat.le_refl _) (by rw [top_zero (Nat.le_refl _), top_zero (by omega)])
  · simp only [if_neg (show ¬ ((dg m).length : Int) = ((dg n).length : Int) by omega)]
    refine (Ev.now _).cast ?_
    rcases Nat.lt_or_ge m n with h | h
    · have := dg_len_mono (Nat.le_of_lt h)
      rw [decide_eq_true h, decide_eq_true (by omega)]
    · have := dg_len_mono h
      rw [decide_eq_false (by omega), decide_eq_false (by omega)]
theorem l1Double_l (a : List Int) (hx : ∀ y ∈ a, 0 ≤ y ∧ y ≤ 10000) (hl : a.length ≤ 1048576) (d : Nat) : ∀ (i : Nat) (out : List Int), i + d = a.length → out = (a.take i).map (2 * ·) → Ev (fun k => spec_l1Double.l0 k a out (i : Int)) (dg (nv (a.map (2 * ·)))) := by
  induction d with
  | zero =>
    intro i out hi ho
    refine Ev.step (fun k => by rw [spec_l1Double.l0]) ?_
    rw [List.take_of_length_le (by omega)] at ho
    subst ho
    simp only [if_neg (show ¬ (i : Int) < (a.length : Int) by omega)]
    refine Ev.bind (l1Carry_ev _ (fun y hy => ?_) (by simp; omega)) ?_
    · obtain ⟨z, hz, rfl⟩ := List.mem_map.1 hy
      have := hx z hz
      omega
    · exact Ev.now _
  | succ d ih =>
    intro i out hi ho
    refine Ev.step (fun k => by rw [spec_l1Double.l0]) ?_
    have hlen : out.length = i := by subst ho; simp; omega
    have hm := hx (rd a (i : Int)) (by rw [rd_lt a i (by omega)]; exact List.getElem_mem _)
    simp only [if_pos (show (i : Int) < (a.length : Int) by omega), if_pos (show 0 ≤ (i : Int) by omega), if_pos (show out.length < 17592186044416 by omega), wrap_succ (show i < 9223372036854775807 by omega), wrap_id (show -9223372036854775808 ≤ 2 * rd a (i : Int) by omega) (show 2 * rd a (i : Int) ≤ 9223372036854775807 by omega)]
    exact ih (i + 1) _ (by omega) (by rw [take_rd a i (by omega), ho]; simp)
theorem nv_twice (l : List Int) (h : dok l) : nv (l.map (2 * ·)) = 2 * nv l := by
  induction l with
  | nil => rfl
  | cons x l ih =>
    rw [dok_cons] at h
    simp only [List.map_cons, nv, ih h.2]; omega
theorem l1Double_ev (m : Nat) (hm : (dg m).length ≤ 1048576) : Ev (fun k => spec_l1Double.f k (dg m)) (dg (m + m)) := by
  simp only [spec_l1Double.f]
  refine (l1Double_l (dg m) (fun y hy => by have := dg_ok m y hy; omega) hm (dg m).length 0 [] (by omega) (by simp)).cast ?_
  rw [nv_twice _ (dg_ok m), nv_dg, show 2 * m = m + m by omega]
theorem pw_len2 {j : Nat} (h : j ≤ 1331) : (dg (2 ^ j)).length ≤ 101 := by
  rw [dg_len]
  exact Nat.lt_of_le_of_lt (Nat.pow_le_pow_right (by omega) h) pow_room2
theorem bl_nok {n : Nat} (h : (dg n).length ≤ 100) : bl n ≤ 1330 := by
  rw [bl_le]
  exact Nat.le_trans (Nat.le_of_lt (dg_len.1 h)) pow_big
theorem specBits_l (n : Nat) (hn : (dg n).length ≤ 100) (d : Nat) : ∀ j : Nat, j + d = bl n → Ev (fun k => spec_BitsFor.l0 k (dg n) (dg (2 ^ j)) (j : Int)) (bl n : Int) := by
  have hb := bl_nok hn
  induction d with
  | zero =>
    intro j hj
    refine Ev.step (fun k => by rw [spec_BitsFor.l0]) ?_
    have h1 := pw_len2 (show j ≤ 1331 by omega)
    refine Ev.bind (l1Less_ev _ _ (by omega)) ?_
    have h2 : n ≤ 2 ^ j := (bl_le j n).1 (by omega)
    simp only [decide_eq_false (show ¬ 2 ^ j < n by omega), Bool.false_eq_true, if_false]
    obtain rfl : j = bl n := by omega
    exact Ev.now _
  | succ d ih =>
    intro j hj
    refine Ev.step (fun k => by rw [spec_BitsFor.l0]) ?_
    have h1 := pw_len2 (show j ≤ 1331 by omega)
    refine Ev.bind (l1Less_ev _ _ (by omega)) ?_
    have h2 : ¬ n ≤ 2 ^ j := fun h => by have := (bl_le j n).2 h; omega
    simp only [decide_eq_true (show 2 ^ j < n by omega), if_true]
    refine Ev.bind (l1Double_ev (2 ^ j) (by omega)) ?_
    rw [pw_twice, wrap_succ (show j < 9223372036854775807 by omega)]
    exact ih (j + 1) (by omega)
def bitsR (a : List Int) : Int := if nok a = true then (bl (nv a) : Int) else -1
theorem specBits_ev (a : List Int) (ha : a.length ≤ 1048576) : Ev (fun k => spec_BitsFor.f k a) (bitsR a) := by
  simp only [spec_BitsFor.f]
  refine Ev.bind (specNatOk_ev a (by omega)) ?_
  by_cases h : nok a = true
  · simp only [if_pos h, dg_one]
    obtain ⟨n, rfl, hn⟩ := nok_ex h
    exact (specBits_l n hn (bl n) 0 (by omega)).cast (by rw [bitsR, if_pos h, nv_dg])
  · simp only [if_neg h]
    exact (Ev.now _).cast (by rw [bitsR, if_neg h])

theorem implNatOk_l (x : List Int) (hx : x.length ≤ 100) (d : Nat) : ∀ i : Nat, i + d = x.length → Ev (fun k => impl_NatOk.l0 k x x (x.length : Int) (i : Int)) (((x.drop i).all fun y => decide (0 ≤ y) && decide (y ≤ 9999)) && (x.isEmpty || rd x ((x.length : Int) - 1) != 0)) := by
  induction d with
  | zero =>
    intro i hi
    refine Ev.step (fun k => by rw [impl_NatOk.l0]) ?_
    simp only [if_neg (show ¬ (i : Int) < (x.length : Int) by omega)]
    rw [List.drop_of_length_le (show x.length ≤ i by omega)]
    by_cases h2 : x.length = 0
    · simp only [if_pos (show (x.length : Int) = 0 by omega)]
      exact (Ev.now true).cast (by simp [List.length_eq_zero_iff.1 h2])
    · have hw : wrap64 ((x.length : Int) - 1) = (x.length : Int) - 1 := wrap_id (by omega) (by omega)
      simp only [if_neg (show ¬ (x.length : Int) = 0 by omega), hw, if_pos (show 0 ≤ (x.length : Int) - 1 by omega), if_pos (show (x.length : Int) - 1 < (x.length : Int) by omega)]
      have hne : x.isEmpty = false := by cases x; simp at h2; rfl
      exact (Ev.now _).cast (by simp [hne])
  | succ d ih =>
    intro i hi
    refine Ev.step (fun k => by rw [impl_NatOk.l0]) ?_
    simp only [if_pos (show (i : Int) < (x.length : Int) by omega), if_pos (show 0 ≤ (i : Int) by omega), wrap_succ (show i < 9223372036854775807 by omega)]
    rw [drop_rd x i (by omega), List.all_cons]
    by_cases h : rd x (i : Int) < 0
    · simp only [if_pos h]
      exact (Ev.now false).cast (by rw [decide_eq_false (show ¬ 0 ≤ rd x (i : Int) by omega)]; simp)
    · simp only [if_neg h]
      by_cases h' : rd x (i : Int) ≥ 10000
      · simp only [if_pos h']
        exact (Ev.now false).cast (by rw [decide_eq_false (show ¬ rd x (i : Int) ≤ 9999 by omega)]; simp)
      · simp only [if_neg h']
        exact (ih (i + 1) (by omega)).cast (by rw [decide_eq_true (show 0 ≤ rd x (i : Int) by omega), decide_eq_true (show rd x (i : Int) ≤ 9999 by omega)]; simp)
theorem implNatOk_ev (x : List Int) : Ev (fun k => impl_NatOk.f k x) (nok x) := by
  simp only [impl_NatOk.f]
  by_cases h : x.length ≤ 100
  · simp only [if_neg (show ¬ (x.length : Int) > 100 by omega)]
    exact (implNatOk_l x h x.length 0 (by omega)).cast (by simp [nok, h])
  · simp only [if_pos (show (x.length : Int) > 100 by omega)]
    exact (Ev.now false).cast (by simp [nok, h])

theorem place_eq (a : List Int) (i : Nat) : impl_great_place.f a (i : Int) = some (lm a (i : Int)) := by
  unfold impl_great_place.f lm
  split
  · rw [if_pos (by omega)]
  · rfl

theorem plus_l (a b : List Int) (ha : a.length ≤ 1048576) (hb : b.length ≤ 1048576) (d : Nat) : ∀ (i m n c : Nat) (out : List Int), m + n + c ≤ d → a.drop i = dg m → b.drop i = dg n → c ≤ 1 → i ≤ 1048576 + 1 → out.length = i → (i ≤ 1048576 ∨ c = 0) → Ev (fun k => impl_great_plus.l0 k a b out (c : Int) (i : Int)) (out ++ dg (m + n + c)) := by
  induction d using Nat.strongRecOn with
  | ind d ih =>
    intro i m n c out hd hm hn hc hi ho hic
    have hstep : Ev (fun k => impl_great_plus.j1 k a b out (c : Int) (i : Int) (decide (0 < m ∨ 0 < n ∨ 0 < c))) (out ++ dg (m + n + c)) := by
      refine Ev.step (fun k => by rw [impl_great_plus.j1]) ?_
      by_cases h : 0 < m ∨ 0 < n ∨ 0 < c
      · have hil : i ≤ 1048576 := by rw [← dg_lt hm, ← dg_lt hn] at h; omega
        have hs : wrap64 ((wrap64 (((m % 10000 : Nat) : Int) + ((n % 10000 : Nat) : Int))) + (c : Int)) = ((m % 10000 + n % 10000 + c : Nat) : Int) := by rw [wrap_id (x := ((m % 10000 : Nat) : Int) + ((n % 10000 : Nat) : Int)) (by omega) (by omega), wrap_id (by omega) (by omega)]; omega
        simp only [decide_eq_true h, if_true, place_eq, dg_lm hm, dg_lm hn, Option.bind_some, if_pos (show out.length < 17592186044416 by omega), wrap_succ (show i < 9223372036854775807 by omega), hs, tmod4, tdiv4, wrap_id (show -9223372036854775808 ≤ (((m % 10000 + n % 10000 + c) / 10000 : Nat) : Int) by omega) (show (((m % 10000 + n % 10000 + c) / 10000 : Nat) : Int) ≤ 9223372036854775807 by omega)]
        refine (ih (m / 10000 + n / 10000 + (m % 10000 + n % 10000 + c) / 10000) (by omega) (i + 1) _ _ _ _ (Nat.le_refl _) (dg_step hm) (dg_step hn) (by omega) (by omega) (by simp; omega) ?_).cast ?_
        · rcases Nat.lt_or_ge i 1048576 with h1 | h1
          · left; omega
          · right
            have e1 : m = 0 := by have := dg_lt hm; omega
            have e2 : n = 0 := by have := dg_lt hn; omega
            subst e1; subst e2; omega
        · have e1 : (m + n + c) % 10000 = (m % 10000 + n % 10000 + c) % 10000 := by omega
          have e2 : (m + n + c) / 10000 = m / 10000 + n / 10000 + (m % 10000 + n % 10000 + c) / 10000 := by omega
          rw [dg_pos (n := m + n + c) (by omega), e1, e2]; simp
      · simp only [decide_eq_false h, Bool.false_eq_true, if_false]
        obtain rfl : m = 0 := by omega
        obtain rfl : n = 0 := by omega
        obtain rfl : c = 0 := by omega
        exact (Ev.now _).cast (by simp [dg_zero])
    refine Ev.step (fun k => by rw [impl_great_plus.l0]) ?_
    by_cases h : (i : Int) < (a.length : Int)
    · simp only [if_pos h]
      have h' : 0 < m := (dg_lt hm).1 (by omega)
      rw [decide_eq_true (Or.inl h')] at hstep
      exact hstep
    · simp only [if_neg h]
      have h' : ¬ 0 < m := fun e => h (by have := (dg_lt hm).2 e; omega)
      by_cases g : (i : Int) < (b.length : Int)
      · simp only [if_pos g]
        have g' : 0 < n := (dg_lt hn).1 (by omega)
        rw [decide_eq_true (Or.inr (Or.inl g'))] at hstep
        exact hstep
      · simp only [if_neg g]
        have g' : ¬ 0 < n := fun e => g (by have := (dg_lt hn).2 e; omega)
        have e : decide (0 < m ∨ 0 < n ∨ 0 < c) = decide ((c : Int) > 0) := by
          simp only [decide_eq_decide]; omega
        rw [e] at hstep
        exact hstep
theorem plus_ev (m n : Nat) (hm : (dg m).length ≤ 1048576) (hn : (dg n).length ≤ 1048576) : Ev (fun k => impl_great_plus.f k (dg m) (dg n)) (dg (m + n)) := by
  simp only [impl_great_plus.f]
  exact (plus_l (dg m) (dg n) hm hn (m + n + 0) 0 m n 0 [] (Nat.le_refl _) rfl rfl (by omega) (by omega) rfl (by omega)).cast (by simp)

theorem against_l (m n : Nat) (j : Nat) : j ≤ 1048577 → m / 10000 ^ j = n / 10000 ^ j → Ev (fun k => impl_great_against.l0 k (dg m) (dg n) ((j : Int) - 1)) (cmpN m n) := by
  induction j with
  | zero =>
    intro hj h
    refine Ev.step (fun k => by rw [impl_great_against.l0]) ?_
    simp only [if_neg (show ¬ ((0 : Nat) : Int) - 1 ≥ 0 by omega)]
    exact (Ev.now _).cast (by simp at h; subst h; simp [cmpN])
  | succ j ih =>
    intro hj h
    refine Ev.step (fun k => by rw [impl_great_against.l0]) ?_
    have e : ((j + 1 : Nat) : Int) - 1 = (j : Int) := by omega
    simp only [e, if_pos (show (j : Int) ≥ 0 by omega), place_eq, dg_lm', Option.bind_some]
    by_cases h1 : m / 10000 ^ j % 10000 < n / 10000 ^ j % 10000
    · simp only [if_pos (show ((m / 10000 ^ j % 10000 : Nat) : Int) < ((n / 10000 ^ j % 10000 : Nat) : Int) by omega)]
      exact (Ev.now _).cast (by rw [cmpN, if_pos (up_lt h h1)])
    · simp only [if_neg (show ¬ ((m / 10000 ^ j % 10000 : Nat) : Int) < ((n / 10000 ^ j % 10000 : Nat) : Int) by omega)]
      by_cases h2 : n / 10000 ^ j % 10000 < m / 10000 ^ j % 10000
      · simp only [if_pos (show ((m / 10000 ^ j % 10000 : Nat) : Int) > ((n / 10000 ^ j % 10000 : Nat) : Int) by omega)]
        have := up_lt h.symm h2
        exact (Ev.now _).cast (by rw [cmpN, if_neg (by omega), if_pos this])
      · simp only [if_neg (show ¬ ((m / 10000 ^ j % 10000 : Nat) : Int) > ((n / 10000 ^ j % 10000 : Nat) : Int) by omega), wrap_id (show -9223372036854775808 ≤ (j : Int) - 1 by omega) (show (j : Int) - 1 ≤ 9223372036854775807 by omega)]
        exact ih (by omega) (up_eq h (by omega))
theorem against_ev (m n : Nat) (hm : (dg m).length ≤ 1048576) (hn : (dg n).length ≤ 1048576) : Ev (fun k => impl_great_against.f k (dg m) (dg n)) (cmpN m n) := by
  simp only [impl_great_against.f]
  obtain ⟨j, hj, h1, h2, h3⟩ : ∃ j : Nat, mx ((dg m).length : Int) ((dg n).length : Int) = (j : Int) ∧ (dg m).length ≤ j ∧ (dg n).length ≤ j ∧ j ≤ 1048576 := by
    unfold mx
    split
    · exact ⟨_, rfl, by omega, by omega, by omega⟩
    · exact ⟨_, rfl, by omega, by omega, by omega⟩
  simp only [hj, wrap_id (show -9223372036854775808 ≤ (j : Int) - 1 by omega) (show (j : Int) - 1 ≤ 9223372036854775807 by omega)]
  exact against_l m n j (by omega) (by rw [top_zero h1, top_zero h2])

theorem implBits_l (n : Nat) (hn : (dg n).length ≤ 100) (d : Nat) : ∀ j : Nat, j + d = bl n → Ev (fun k => impl_BitsFor.l0 k (dg n) (j : Int) (dg (2 ^ j))) (bl n : Int) := by
  have hb := bl_nok hn
  induction d with
  | zero =>
    intro j hj
    refine Ev.step (fun k => by rw [impl_BitsFor.l0]) ?_
    have h1 := pw_len2 (show j ≤ 1331 by omega)
    refine Ev.bind (against_ev _ _ (by omega) (by omega)) ?_
    have h2 : n ≤ 2 ^ j := (bl_le j n).1 (by omega)
    have e : ¬ cmpN (2 ^ j) n < 0 := by unfold cmpN; rw [if_neg (by omega)]; split <;> omega
    simp only [if_neg e]
    obtain rfl : j = bl n := by omega
    exact Ev.now _
  | succ d ih =>
    intro j hj
    refine Ev.step (fun k => by rw [impl_BitsFor.l0]) ?_
    have h1 := pw_len2 (show j ≤ 1331 by omega)
    refine Ev.bind (against_ev _ _ (by omega) (by omega)) ?_
    have h2 : ¬ n ≤ 2 ^ j := fun h => by have := (bl_le j n).2 h; omega
    have e : cmpN (2 ^ j) n < 0 := by unfold cmpN; rw [if_pos (by omega)]; omega
    simp only [if_pos e]
    refine Ev.bind (plus_ev (2 ^ j) (2 ^ j) (by omega) (by omega)) ?_
    rw [pw_twice, wrap_succ (show j < 9223372036854775807 by omega)]
    exact ih (j + 1) (by omega)
theorem implBits_ev (a : List Int) : Ev (fun k => impl_BitsFor.f k a) (bitsR a) := by
  simp only [impl_BitsFor.f]
  refine Ev.bind (implNatOk_ev a) ?_
  by_cases h : nok a = true
  · simp only [if_pos h, dg_one]
    obtain ⟨n, rfl, hn⟩ := nok_ex h
    exact (implBits_l n hn (bl n) 0 (by omega)).cast (by rw [bitsR, if_pos h, nv_dg])
  · simp only [if_neg h]
    exact (Ev.now _).cast (by rw [bitsR, if_neg h])

theorem told_eq (l : List Int) : impl_told.f l = some (if l.length ≤ 100 then (l, true) else ([], false)) := by
  unfold impl_told.f
  by_cases h : l.length ≤ 100
  · rw [if_neg (by omega), if_pos h]
  · rw [if_pos (by omega), if_neg h]

theorem implPower_l (d : Nat) : ∀ j : Nat, j + d ≤ 1000 → Ev (fun k => impl_PowerNat.l0 k (d : Int) (dg (2 ^ j))) (dg (2 ^ (j + d)), true) := by
  induction d with
  | zero =>
    intro j hj
    refine Ev.step (fun k => by rw [impl_PowerNat.l0]) ?_
    simp only [if_neg (show ¬ ((0 : Nat) : Int) > 0 by omega), told_eq, if_pos (pw_len (show j ≤ 1000 by omega)), Option.bind_some]
    exact Ev.now _
  | succ d ih =>
    intro j hj
    refine Ev.step (fun k => by rw [impl_PowerNat.l0]) ?_
    have h1 := pw_len (show j ≤ 1000 by omega)
    simp only [if_pos (show ((d + 1 : Nat) : Int) > 0 by omega), wrap_pred (show d < 9223372036854775807 by omega)]
    refine Ev.bind (plus_ev (2 ^ j) (2 ^ j) (by omega) (by omega)) ?_
    rw [pw_twice]
    exact (ih (j + 1) (by omega)).cast (by rw [show j + 1 + d = j + (d + 1) by omega])
theorem implPower_ev (a : Int) : Ev (fun k => impl_PowerNat.f k a) (powR a) := by
  simp only [impl_PowerNat.f]
  by_cases h0 : a < 0
  · simp only [if_pos h0]
    refine Ev.step (fun k => by rw [impl_PowerNat.j0]) ?_
    simp only [if_true]
    exact (Ev.now _).cast (by rw [powR, if_neg (by omega)])
  · simp only [if_neg h0]
    refine Ev.step (fun k => by rw [impl_PowerNat.j0]) ?_
    by_cases h1 : a > 1000
    · simp only [decide_eq_true h1, if_true]
      exact (Ev.now _).cast (by rw [powR, if_neg (by omega)])
    · obtain ⟨n, rfl⟩ := Int.eq_ofNat_of_zero_le (show 0 ≤ a by omega)
      simp only [decide_eq_false h1, Bool.false_eq_true, if_false, dg_one]
      exact (implPower_l n 0 (by omega)).cast (by rw [powR, if_pos (by omega)]; simp)

theorem implCmp_ev (a b : List Int) : Ev (fun k => impl_CmpNat.f k a b) (cmpR a b) := by
  simp only [impl_CmpNat.f]
  refine Ev.bind (implNatOk_ev a) ?_
  by_cases h1 : nok a = true
  · simp only [if_pos h1]
    refine Ev.bind (implNatOk_ev b) ?_
    by_cases h2 : nok b = true
    · simp only [if_pos h2]
      obtain ⟨m, rfl, hm⟩ := nok_ex h1
      obtain ⟨n, rfl, hn⟩ := nok_ex h2
      refine Ev.bind (against_ev m n (by omega) (by omega)) ?_
      exact (Ev.now _).cast (by rw [cmpR, if_pos ⟨h1, h2⟩, nv_dg, nv_dg])
    · simp only [if_neg h2]
      exact (Ev.now _).cast (by rw [cmpR, if_neg (fun h => h2 h.2)])
  · simp only [if_neg h1]
    exact (Ev.now _).cast (by rw [cmpR, if_neg (fun h => h1 h.1)])

def Want_FnBitsFor : Prop := ∀ (l0 : List (Int)), (l0.length ≤ 9223372036854775807 ∧ ∀ u1 ∈ l0, (Lit.int .u8 u1).wf = true) → ∃ k, laws_FnBitsFor.f k l0 = some true
theorem drawBits_ex (s : List Int) (hs : s.length ≤ 1048576) : ∃ a : List Int, Ev (fun k => spec_DrawBitsFor.f k s) a ∧ a.length ≤ 1000 := by
  obtain ⟨h, e⟩ := l1New_ex s (by omega)
  obtain ⟨b, i1, g1, e1, p1, q1⟩ := l1Once_ex s (by omega) 0 h 2 (by omega) (by omega)
  simp only [spec_DrawBitsFor.f]
  by_cases c : b = true
  · obtain ⟨v, i2, g2, e2, v0, v1, _, p2, q2⟩ := l1Below_ex s (by omega) i1 g1 60 p1 q1
    have v2 := v1 (by omega)
    obtain ⟨n, rfl⟩ := Int.eq_ofNat_of_zero_le v0
    have hp : powR (n : Int) = (dg (2 ^ n), true) := by rw [powR, if_pos (by omega)]; rfl
    have hl := pw_len (show n ≤ 1000 by omega)
    obtain ⟨b', i3, g3, e3, p3, q3⟩ := l1Once_ex s (by omega) i2 g2 2 p2 q2
    by_cases c' : b' = true
    · refine ⟨(addR (dg (2 ^ n)) [1]).1, Ev.bind e ?_, ?_⟩
      · simp only [e1, e2, Option.bind_some, if_pos c]
        refine Ev.bind (specPower_ev (n : Int)) ?_
        simp only [hp, e3, Option.bind_some, if_pos c']
        refine Ev.bind (specAdd_ev _ _ (by omega) (by simp)) ?_
        exact Ev.now _
      · unfold addR
        split
        · rename_i hh; exact Nat.le_trans hh.2.2 (by omega)
        · simp
    · refine ⟨dg (2 ^ n), Ev.bind e ?_, by omega⟩
      simp only [e1, e2, Option.bind_some, if_pos c]
      refine Ev.bind (specPower_ev (n : Int)) ?_
      simp only [hp, e3, Option.bind_some, if_neg c']
      exact Ev.now _
  · obtain ⟨r, i2, g2, e2, hl, p2, q2⟩ := l1DrawAny_ex s (by omega) i1 g1 p1 q1
    refine ⟨r, Ev.bind e ?_, by omega⟩
    simp only [e1, Option.bind_some, if_neg c]
    refine Ev.bind e2 ?_
    exact Ev.now _
theorem FnBitsFor : Want_FnBitsFor := by
  intro s hq
  refine Ev.rounds ?_
  simp only [laws_FnBitsFor.f, laws_big.f, Option.bind_some]
  by_cases hb : (s.length : Int) > 4096
  · simp only [decide_eq_true hb, if_true]; exact Ev.now _
  simp only [decide_eq_false hb, Bool.false_eq_true, if_false]
  obtain ⟨a, ea, hl⟩ := drawBits_ex s (by omega)
  refine Ev.bind ea ?_
  refine Ev.bind (implBits_ev a) ?_
  refine Ev.bind (specBits_ev a (by omega)) ?_
  simp only [if_true]
  refine Ev.step (fun k => by rw [laws_FnBitsFor.j0]) ?_
  by_cases h : nok a = true
  · have hr : bitsR a = (bl (nv a) : Int) := by rw [bitsR, if_pos h]
    obtain ⟨n, rfl, hn⟩ := nok_ex h
    rw [nv_dg] at hr
    simp only [hr, decide_eq_false (show ¬ ((bl n : Nat) : Int) < 0 by omega), Bool.false_eq_true, if_false]
    refine Ev.bind (implPower_ev _) ?_
    by_cases c : bl n ≤ 1000
    · have hp : powR ((bl n : Nat) : Int) = (dg (2 ^ bl n), true) := by rw [powR, if_pos (by omega)]; rfl
      simp only [hp, if_true]
      refine Ev.bind (implPower_ev _) ?_
      refine Ev.bind (implCmp_ev _ _) ?_
      have hc : cmpR (dg n) (dg (2 ^ bl n)) ≤ 0 := by
        rw [cmpR, if_pos ⟨h, pw_nok c⟩, nv_dg, nv_dg, cmpN]
        have := (bl_le (bl n) n).1 (Nat.le_refl _)
        split
        · omega
        · rw [if_neg (by omega)]; omega
      simp only [if_pos hc]
      rcases Nat.eq_zero_or_pos (bl n) with hz | hz
      · have hw : wrap64 (((0 : Nat) : Int) - 1) = -1 := by unfold wrap64; omega
        have hp' : powR (-1) = ([], false) := by rw [powR, if_neg (by omega)]
        simp only [hz, hw, hp', show ((false : Bool) == decide (((0 : Nat) : Int) > 0)) = true by decide, if_true, Bool.false_eq_true, if_false]
        exact Ev.now _
      · obtain ⟨m, hm⟩ : ∃ m, bl n = m + 1 := ⟨bl n - 1, by omega⟩
        have hw : wrap64 (((bl n : Nat) : Int) - 1) = (m : Int) := by rw [hm]; exact wrap_pred (by omega)
        have hp' : powR (m : Int) = (dg (2 ^ m), true) := by rw [powR, if_pos (by omega)]; rfl
        simp only [hw, hp', decide_eq_true (show ((bl n : Nat) : Int) > 0 by omega), beq_self_eq_true, if_true]
        refine Ev.bind (implCmp_ev _ _) ?_
        have hc2 : cmpR (dg n) (dg (2 ^ m)) > 0 := by
          rw [cmpR, if_pos ⟨h, pw_nok (by omega)⟩, nv_dg, nv_dg, cmpN]
          have : ¬ n ≤ 2 ^ m := fun hh => by have := (bl_le m n).2 hh; omega
          rw [if_neg (by omega), if_pos (by omega)]; omega
        simp only [decide_eq_true hc2]
        exact Ev.now _
    · have hp : powR ((bl n : Nat) : Int) = ([], false) := by rw [powR, if_neg (by omega)]
      simp only [hp, Bool.false_eq_true, if_false, decide_eq_true (show ((bl n : Nat) : Int) > 1000 by omega)]
      exact Ev.now _
  · have hr : bitsR a = -1 := by rw [bitsR, if_neg h]
    simp only [hr, decide_eq_true (show (-1 : Int) < 0 by omega), if_true]
    refine Ev.bind (specBits_ev a (by omega)) ?_
    simp only [hr, if_true]
    refine Ev.bind (implNatOk_ev a) ?_
    rw [Bool.not_eq_true] at h
    simp only [h, Bool.not_false]
    exact Ev.now _
end Go.Proofs.Ytlaliacfonfflaa.Pure
