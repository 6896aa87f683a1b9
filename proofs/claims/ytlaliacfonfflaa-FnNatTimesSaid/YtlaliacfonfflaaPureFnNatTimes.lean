/- FnNatTimes answers true for every code: a product of a sum is the sum of the products, for the drawn numbers; no condition. -/
import Derived.Test.YtlaliacfonfflaaPFnNatTimesx5
import Derived.Test.YtlaliacfonfflaaNt
import Derived.Test.YtlaliacfonfflaaBits
set_option linter.unusedVariables false
set_option linter.unusedSimpArgs false
namespace Go.Proofs.Ytlaliacfonfflaa.Pure
open Go.RowKit Go.Proofs.Ytlaliacfonfflaa.PFnNatTimes Go.Proofs.YtlaliacfonfflaaW.PrintWords Go.Proofs.YtlaliacfonfflaaW.PrintLast Go.Proofs.YtlaliacfonfflaaW.PrintMore Go.Proofs.Ytlaliacfonfflaa.Bs

theorem l1New_l (s : List Int) (hs : s.length ≤ 4611686018427387904) (d : Nat) : ∀ (i : Nat) (h : Int), i + d = s.length → ∃ h', Ev (fun k => spec_l1New.l0 k s h (i : Int)) (s, 0, h') := by
  induction d with
  | zero =>
    intro i h hi
    refine ⟨h, Ev.step (fun k => by rw [spec_l1New.l0]) ?_⟩
    simp only [if_neg (show ¬ (i : Int) < (s.length : Int) by omega)]
    exact Ev.now _
  | succ d ih =>
    intro i h hi
    obtain ⟨h', e⟩ := ih (i + 1) (Go.bits .and .i64 (wrap64 ((wrap64 ((wrap64 (h * 181)) + (wrap64 (rd s (i : Int))))) + 11)) 1073741823) (by omega)
    refine ⟨h', Ev.step (fun k => by rw [spec_l1New.l0]) ?_⟩
    simp only [if_pos (show (i : Int) < (s.length : Int) by omega), if_pos (show 0 ≤ (i : Int) by omega), wrap_succ (show i < 9223372036854775807 by omega)]
    exact e
theorem l1New_ex (s : List Int) (hs : s.length ≤ 4611686018427387904) : ∃ h', Ev (fun k => spec_l1New.f k s) (s, 0, h') := by
  simp only [spec_l1New.f]
  exact l1New_l s hs s.length 0 _ (by omega)

theorem l1Byte_ex (s : List Int) (i h : Int) (h0 : 0 ≤ i) (h1 : i ≤ (s.length : Int)) (hs : s.length ≤ 4611686018427387904) : ∃ b i' h', spec_l1Byte.f s i h = some (b, i', h') ∧ 0 ≤ b ∧ b ≤ 255 ∧ 0 ≤ i' ∧ i' ≤ (s.length : Int) := by
  unfold spec_l1Byte.f
  by_cases c : i < (s.length : Int)
  · rw [if_pos c, if_pos h0]
    have hm := and_mask (wrap64 ((Go.bits .and .i64 (Go.bits .xor .i64 ((wrap64 ((wrap64 (h * 6364136223846793005)) + 1442695040888963407)) / 8589934592) ((wrap64 ((wrap64 (h * 6364136223846793005)) + 1442695040888963407)) / 35184372088832)) 255) + (wrap64 (rd s i)))) 255 (by decide)
    exact ⟨_, _, _, rfl, hm.1, hm.2, by rw [wrap_id (by omega) (by omega)]; omega, by rw [wrap_id (by omega) (by omega)]; omega⟩
  · rw [if_neg c]
    have hm := and_mask (Go.bits .xor .i64 ((wrap64 ((wrap64 (h * 6364136223846793005)) + 1442695040888963407)) / 8589934592) ((wrap64 ((wrap64 (h * 6364136223846793005)) + 1442695040888963407)) / 35184372088832)) 255 (by decide)
    exact ⟨_, _, _, rfl, hm.1, hm.2, h0, h1⟩
theorem l1Below_ex (s : List Int) (hs : s.length ≤ 4611686018427387904) (i h a : Int) (h0 : 0 ≤ i) (h1 : i ≤ (s.length : Int)) : ∃ b i' h', spec_l1Below.f s i h a = some (b, i', h') ∧ 0 ≤ b ∧ (0 < a → b < a) ∧ (a ≤ 0 → b = 0) ∧ 0 ≤ i' ∧ i' ≤ (s.length : Int) := by
  unfold spec_l1Below.f
  by_cases c : a ≤ 0
  · rw [if_pos c]
    exact ⟨0, i, h, rfl, by omega, by omega, by omega, h0, h1⟩
  rw [if_neg c]
  obtain ⟨b1, i1, g1, e1, x1, y1, z1, w1⟩ := l1Byte_ex s i h h0 h1 hs
  by_cases c2 : a ≤ 256
  · rw [if_pos c2, e1]
    simp only [Option.bind_some, if_neg (show ¬ a = 0 by omega)]
    have hm := Int.emod_lt_of_pos b1 (show 0 < a by omega)
    have hn := Int.emod_nonneg b1 (show a ≠ 0 by omega)
    rw [← Int.tmod_eq_emod_of_nonneg x1] at hm hn
    exact ⟨_, _, _, rfl, hn, fun _ => hm, by omega, z1, w1⟩
  · obtain ⟨b2, i2, g2, e2, x2, y2, z2, w2⟩ := l1Byte_ex s i1 g1 z1 w1 hs
    obtain ⟨b3, i3, g3, e3, x3, y3, z3, w3⟩ := l1Byte_ex s i2 g2 z2 w2 hs
    obtain ⟨b4, i4, g4, e4, x4, y4, z4, w4⟩ := l1Byte_ex s i3 g3 z3 w3 hs
    rw [if_neg c2]
    simp only [e1, e2, e3, e4, Option.bind_some, if_neg (show ¬ a = 0 by omega)]
    have hw : wrap64 ((wrap64 ((wrap64 ((wrap64 (b1 * 16777216)) + (wrap64 (b2 * 65536)))) + (wrap64 (b3 * 256)))) + b4) = b1 * 16777216 + b2 * 65536 + b3 * 256 + b4 := by
      rw [wrap_id (x := b1 * 16777216) (by omega) (by omega), wrap_id (x := b2 * 65536) (by omega) (by omega), wrap_id (x := b3 * 256) (by omega) (by omega), wrap_id (x := b1 * 16777216 + b2 * 65536) (by omega) (by omega), wrap_id (x := b1 * 16777216 + b2 * 65536 + b3 * 256) (by omega) (by omega), wrap_id (by omega) (by omega)]
    rw [hw]
    have hm := Int.emod_lt_of_pos (b1 * 16777216 + b2 * 65536 + b3 * 256 + b4) (show 0 < a by omega)
    have hn := Int.emod_nonneg (b1 * 16777216 + b2 * 65536 + b3 * 256 + b4) (show a ≠ 0 by omega)
    rw [← Int.tmod_eq_emod_of_nonneg (show 0 ≤ b1 * 16777216 + b2 * 65536 + b3 * 256 + b4 by omega)] at hm hn
    exact ⟨_, _, _, rfl, hn, fun _ => hm, by omega, z4, w4⟩
theorem l1Once_ex (s : List Int) (hs : s.length ≤ 4611686018427387904) (i h a : Int) (h0 : 0 ≤ i) (h1 : i ≤ (s.length : Int)) : ∃ b i' h', spec_l1Once.f s i h a = some (b, i', h') ∧ 0 ≤ i' ∧ i' ≤ (s.length : Int) := by
  obtain ⟨b, i', h', e, _, _, _, x, y⟩ := l1Below_ex s hs i h a h0 h1
  unfold spec_l1Once.f
  simp only [e, Option.bind_some]
  exact ⟨_, _, _, rfl, x, y⟩

theorem l1Trim_l (a : List Int) (ha : a.length < 17592186044416) (n : Nat) : n ≤ a.length → Ev (fun k => spec_l1Trim.l0 k a (n : Int)) (tr (a.take n)) := by
  induction n with
  | zero =>
    intro hn
    refine Ev.step (fun k => by rw [spec_l1Trim.l0]) ?_
    simp only [if_neg (show ¬ ((0 : Nat) : Int) > 0 by omega), Option.bind_some]
    have h1 : ((0 : Nat) : Int) ≤ (a.length : Int) := by omega
    simp only [if_pos (show 0 ≤ ((0 : Nat) : Int) by omega), if_pos h1, Int.toNat_natCast, List.take_zero, List.length_nil, if_pos (show 0 + 0 < 17592186044416 by omega), List.append_nil]
    exact (Ev.now _).cast (by simp [tr])
  | succ n ih =>
    intro hn
    refine Ev.step (fun k => by rw [spec_l1Trim.l0]) ?_
    simp only [if_pos (show ((n + 1 : Nat) : Int) > 0 by omega), wrap_pred (show n < 9223372036854775807 by omega), if_pos (show 0 ≤ (n : Int) by omega), if_pos (show (n : Int) < (a.length : Int) by omega)]
    by_cases e : rd a (n : Int) = 0
    · simp only [if_pos e]
      exact (ih (by omega)).cast (by rw [take_rd a n (by omega), e, tr_snoc0])
    · have hl : ([] : List Int).length + (a.take (n + 1)).length < 17592186044416 := by simp; omega
      simp only [if_neg e, Option.bind_some, if_pos (show 0 ≤ ((n + 1 : Nat) : Int) by omega), if_pos (show ((n + 1 : Nat) : Int) ≤ (a.length : Int) by omega), Int.toNat_natCast, if_pos hl]
      exact (Ev.now _).cast (by rw [take_rd a n (by omega), tr_snoc e]; simp)
theorem l1Trim_ev (a : List Int) (ha : a.length < 17592186044416) : Ev (fun k => spec_l1Trim.f k a) (tr a) := by
  simp only [spec_l1Trim.f]
  exact (l1Trim_l a ha a.length (Nat.le_refl _)).cast (by rw [List.take_length])

theorem l1DrawNat_l (s : List Int) (hs : s.length ≤ 4611686018427387904) (d : Nat) : ∀ (x : List Int) (i h : Int), x.length + d ≤ 1000 → 0 ≤ i → i ≤ (s.length : Int) → ∃ r i' h', Ev (fun k => spec_l1DrawNat.l0 k x (d : Int) s i h) (r, i', h') ∧ r.length ≤ x.length + d ∧ 0 ≤ i' ∧ i' ≤ (s.length : Int) := by
  induction d with
  | zero =>
    intro x i h hd h0 h1
    refine ⟨tr x, i, h, Ev.step (fun k => by rw [spec_l1DrawNat.l0]) ?_, tr_len x, h0, h1⟩
    simp only [if_neg (show ¬ ((0 : Nat) : Int) > 0 by omega)]
    refine Ev.bind (l1Trim_ev x (by omega)) ?_
    exact Ev.now _
  | succ d ih =>
    intro x i h hd h0 h1
    obtain ⟨b, i1, g1, e1, p1, q1⟩ := l1Once_ex s hs i h 3 h0 h1
    by_cases c : b = true
    · obtain ⟨v, i2, g2, e2, v0, v1, _, p2, q2⟩ := l1Below_ex s hs i1 g1 4 p1 q1
      have v2 := v1 (by omega)
      obtain ⟨r, i', h', er, hl, p, q⟩ := ih (x ++ [rd ([0, 9999, 1, 5000] : List Int) v]) i2 g2 (by simp; omega) p2 q2
      refine ⟨r, i', h', Ev.step (fun k => by rw [spec_l1DrawNat.l0]) ?_, by simp at hl; omega, p, q⟩
      simp only [if_pos (show ((d + 1 : Nat) : Int) > 0 by omega), e1, e2, Option.bind_some, if_pos c, if_pos v0, if_pos (show v < (([0, 9999, 1, 5000] : List Int).length : Int) from by simpa using v2), if_pos (show x.length < 17592186044416 by omega), wrap_pred (show d < 9223372036854775807 by omega)]
      exact er
    · obtain ⟨v, i2, g2, e2, v0, v1, _, p2, q2⟩ := l1Below_ex s hs i1 g1 10000 p1 q1
      obtain ⟨r, i', h', er, hl, p, q⟩ := ih (x ++ [v]) i2 g2 (by simp; omega) p2 q2
      refine ⟨r, i', h', Ev.step (fun k => by rw [spec_l1DrawNat.l0]) ?_, by simp at hl; omega, p, q⟩
      simp only [if_pos (show ((d + 1 : Nat) : Int) > 0 by omega), e1, e2, Option.bind_some, if_neg c, if_pos (show x.length < 17592186044416 by omega), wrap_pred (show d < 9223372036854775807 by omega)]
      exact er
theorem l1DrawNat_ex (s : List Int) (hs : s.length ≤ 4611686018427387904) (i h : Int) (h0 : 0 ≤ i) (h1 : i ≤ (s.length : Int)) : ∃ r i' h', Ev (fun k => spec_l1DrawNat.f k s i h) (r, i', h') ∧ r.length ≤ 4 ∧ 0 ≤ i' ∧ i' ≤ (s.length : Int) := by
  obtain ⟨v, i1, g1, e1, v0, v1, _, p1, q1⟩ := l1Below_ex s hs i h 5 h0 h1
  have v2 := v1 (by omega)
  obtain ⟨n, rfl⟩ := Int.eq_ofNat_of_zero_le v0
  obtain ⟨r, i', h', er, hl, p, q⟩ := l1DrawNat_l s hs n [] i1 g1 (by simp; omega) p1 q1
  refine ⟨r, i', h', ?_, by simp at hl; omega, p, q⟩
  simp only [spec_l1DrawNat.f, e1, Option.bind_some]
  exact er

theorem l1Odd_ex (s : List Int) (hs : s.length ≤ 4611686018427387904) (i h : Int) (h0 : 0 ≤ i) (h1 : i ≤ (s.length : Int)) : ∃ r i' h', spec_l1Odd.f s i h = some (r, i', h') ∧ 0 ≤ i' ∧ i' ≤ (s.length : Int) := by
  obtain ⟨v, i1, g1, e1, v0, v1, _, p1, q1⟩ := l1Below_ex s hs i h 10 h0 h1
  have v2 := v1 (by omega)
  unfold spec_l1Odd.f
  simp only [Option.bind_some, e1, if_pos v0]
  rw [if_pos (by simpa using v2)]
  exact ⟨_, _, _, rfl, p1, q1⟩
theorem l1DrawAny_l0 (s : List Int) (hs : s.length ≤ 4611686018427387904) (d : Nat) : ∀ (x : List Int) (i h : Int), x.length + d = 101 → 0 ≤ i → i ≤ (s.length : Int) → ∃ r i' h', Ev (fun k => spec_l1DrawAny.l0 k x s i h) (r, i', h') ∧ r.length ≤ 101 ∧ 0 ≤ i' ∧ i' ≤ (s.length : Int) := by
  induction d with
  | zero =>
    intro x i h hd h0 h1
    obtain ⟨v, i1, g1, e1, v0, v1, _, p1, q1⟩ := l1Below_ex s hs i h 2 h0 h1
    have v2 := v1 (by omega)
    refine ⟨x, i1, g1, Ev.step (fun k => by rw [spec_l1DrawAny.l0]) ?_, by omega, p1, q1⟩
    simp only [e1, Option.bind_some, wrap_id (show -9223372036854775808 ≤ 100 + v by omega) (show 100 + v ≤ 9223372036854775807 by omega), if_neg (show ¬ (x.length : Int) < 100 + v by omega)]
    exact Ev.now _
  | succ d ih =>
    intro x i h hd h0 h1
    obtain ⟨v, i1, g1, e1, v0, v1, _, p1, q1⟩ := l1Below_ex s hs i h 2 h0 h1
    have v2 := v1 (by omega)
    by_cases c : (x.length : Int) < 100 + v
    · obtain ⟨r, i', h', er, hl, p, q⟩ := ih (x ++ [9999]) i1 g1 (by simp; omega) p1 q1
      refine ⟨r, i', h', Ev.step (fun k => by rw [spec_l1DrawAny.l0]) ?_, hl, p, q⟩
      simp only [e1, Option.bind_some, wrap_id (show -9223372036854775808 ≤ 100 + v by omega) (show 100 + v ≤ 9223372036854775807 by omega), if_pos c, if_pos (show x.length < 17592186044416 by omega)]
      exact er
    · refine ⟨x, i1, g1, Ev.step (fun k => by rw [spec_l1DrawAny.l0]) ?_, by omega, p1, q1⟩
      simp only [e1, Option.bind_some, wrap_id (show -9223372036854775808 ≤ 100 + v by omega) (show 100 + v ≤ 9223372036854775807 by omega), if_neg c]
      exact Ev.now _
theorem l1DrawAny_l1 (s : List Int) (hs : s.length ≤ 4611686018427387904) (d : Nat) : ∀ (x : List Int) (i h : Int), x.length + d = 51 → 0 ≤ i → i ≤ (s.length : Int) → ∃ r i' h', Ev (fun k => spec_l1DrawAny.l1 k x s i h) (r, i', h') ∧ r.length ≤ 51 ∧ 0 ≤ i' ∧ i' ≤ (s.length : Int) := by
  induction d with
  | zero =>
    intro x i h hd h0 h1
    obtain ⟨v, i1, g1, e1, v0, v1, _, p1, q1⟩ := l1Below_ex s hs i h 2 h0 h1
    have v2 := v1 (by omega)
    refine ⟨x, i1, g1, Ev.step (fun k => by rw [spec_l1DrawAny.l1]) ?_, by omega, p1, q1⟩
    simp only [e1, Option.bind_some, wrap_id (show -9223372036854775808 ≤ 50 + v by omega) (show 50 + v ≤ 9223372036854775807 by omega), if_neg (show ¬ (x.length : Int) < 50 + v by omega)]
    exact Ev.now _
  | succ d ih =>
    intro x i h hd h0 h1
    obtain ⟨v, i1, g1, e1, v0, v1, _, p1, q1⟩ := l1Below_ex s hs i h 2 h0 h1
    have v2 := v1 (by omega)
    by_cases c : (x.length : Int) < 50 + v
    · obtain ⟨u, i2, g2, e2, _, _, _, p2, q2⟩ := l1Below_ex s hs i1 g1 9999 p1 q1
      obtain ⟨r, i', h', er, hl, p, q⟩ := ih (x ++ [wrap64 (1 + u)]) i2 g2 (by simp; omega) p2 q2
      refine ⟨r, i', h', Ev.step (fun k => by rw [spec_l1DrawAny.l1]) ?_, hl, p, q⟩
      simp only [e1, e2, Option.bind_some, wrap_id (show -9223372036854775808 ≤ 50 + v by omega) (show 50 + v ≤ 9223372036854775807 by omega), if_pos c, if_pos (show x.length < 17592186044416 by omega)]
      exact er
    · refine ⟨x, i1, g1, Ev.step (fun k => by rw [spec_l1DrawAny.l1]) ?_, by omega, p1, q1⟩
      simp only [e1, Option.bind_some, wrap_id (show -9223372036854775808 ≤ 50 + v by omega) (show 50 + v ≤ 9223372036854775807 by omega), if_neg c]
      exact Ev.now _
theorem l1DrawAny_ex (s : List Int) (hs : s.length ≤ 4611686018427387904) (i h : Int) (h0 : 0 ≤ i) (h1 : i ≤ (s.length : Int)) : ∃ r i' h', Ev (fun k => spec_l1DrawAny.f k s i h) (r, i', h') ∧ r.length ≤ 101 ∧ 0 ≤ i' ∧ i' ≤ (s.length : Int) := by
  obtain ⟨x, i1, g1, e1, hx, p1, q1⟩ := l1DrawNat_ex s hs i h h0 h1
  obtain ⟨b, i2, g2, e2, p2, q2⟩ := l1Once_ex s hs i1 g1 8 p1 q1
  simp only [spec_l1DrawAny.f]
  by_cases c : b = true
  · obtain ⟨v, i3, g3, e3, v0, v1, _, p3, q3⟩ := l1Below_ex s hs i2 g2 4 p2 q2
    have v2 := v1 (by omega)
    have hv : v = 0 ∨ v = 1 ∨ v = 2 ∨ v = 3 := by omega
    rcases hv with rfl | rfl | rfl | rfl
    · refine ⟨x ++ [0], i3, g3, Ev.bind e1 ?_, by simp; omega, p3, q3⟩
      simp only [e2, e3, Option.bind_some, if_pos c, if_true, if_pos (show x.length < 17592186044416 by omega)]
      exact Ev.now _
    · obtain ⟨o, i4, g4, e4, p4, q4⟩ := l1Odd_ex s hs i3 g3 p3 q3
      obtain ⟨u, i5, g5, e5, u0, u1, _, p5, q5⟩ := l1Below_ex s hs i4 g4 3 p4 q4
      have u2 := u1 (by omega)
      refine ⟨x ++ [rd ([-1, 10000, o] : List Int) u], i5, g5, Ev.bind e1 ?_, by simp; omega, p5, q5⟩
      simp only [e2, e3, e4, e5, Option.bind_some, if_pos c, if_neg (show ¬ (1 : Int) = 0 by omega), if_true, if_pos u0, if_pos (show u < (([-1, 10000, o] : List Int).length : Int) from by simpa using u2), if_pos (show x.length < 17592186044416 by omega)]
      exact Ev.now _
    · obtain ⟨r, i', h', er, hl, p, q⟩ := l1DrawAny_l0 s hs (101 - x.length) x i3 g3 (by omega) p3 q3
      refine ⟨r, i', h', Ev.bind e1 ?_, hl, p, q⟩
      simp only [e2, e3, Option.bind_some, if_pos c, if_neg (show ¬ (2 : Int) = 0 by omega), if_neg (show ¬ (2 : Int) = 1 by omega), if_true]
      exact er
    · obtain ⟨r, i', h', er, hl, p, q⟩ := l1DrawAny_l1 s hs (51 - x.length) x i3 g3 (by omega) p3 q3
      refine ⟨r, i', h', Ev.bind e1 ?_, by omega, p, q⟩
      simp only [e2, e3, Option.bind_some, if_pos c, if_neg (show ¬ (3 : Int) = 0 by omega), if_neg (show ¬ (3 : Int) = 1 by omega), if_neg (show ¬ (3 : Int) = 2 by omega), if_true]
      exact er
  · refine ⟨x, i2, g2, Ev.bind e1 ?_, by omega, p2, q2⟩
    simp only [e2, Option.bind_some, if_neg c]
    exact Ev.now _

theorem drawAdd_ex (s : List Int) (hs : s.length ≤ 1048576) : ∃ a b : List Int, Ev (fun k => spec_DrawAddNat.f k s) (a, b) ∧ a.length ≤ 101 ∧ b.length ≤ 101 := by
  obtain ⟨h, e⟩ := l1New_ex s (by omega)
  obtain ⟨a, i1, g1, e1, la, p1, q1⟩ := l1DrawAny_ex s (by omega) 0 h (by omega) (by omega)
  obtain ⟨b, i2, g2, e2, lb, p2, q2⟩ := l1DrawAny_ex s (by omega) i1 g1 p1 q1
  refine ⟨a, b, ?_, la, lb⟩
  simp only [spec_DrawAddNat.f]
  refine Ev.bind e ?_
  refine Ev.bind e1 ?_
  refine Ev.bind e2 ?_
  exact Ev.now _

theorem drawMul_ex (s : List Int) (hs : s.length ≤ 1048576) : ∃ a b : List Int, Ev (fun k => spec_DrawMulNat.f k s) (a, b) ∧ a.length ≤ 101 ∧ b.length ≤ 101 := by
  obtain ⟨a, b, e, la, lb⟩ := drawAdd_ex s hs
  refine ⟨a, b, ?_, la, lb⟩
  simp only [spec_DrawMulNat.f]
  exact Ev.bind e (Ev.now _)
theorem drawCmp_ex (s : List Int) (hs : s.length ≤ 1048576) : ∃ a b : List Int, Ev (fun k => spec_DrawCmpNat.f k s) (a, b) ∧ a.length ≤ 101 := by
  obtain ⟨h, e⟩ := l1New_ex s (by omega)
  obtain ⟨a, i1, g1, e1, la, p1, q1⟩ := l1DrawAny_ex s (by omega) 0 h (by omega) (by omega)
  obtain ⟨b, i2, g2, e2, p2, q2⟩ := l1Once_ex s (by omega) i1 g1 3 p1 q1
  simp only [spec_DrawCmpNat.f]
  by_cases c : b = true
  · refine ⟨a, [] ++ a, Ev.bind e ?_, la⟩
    refine Ev.bind e1 ?_
    simp only [e2, Option.bind_some, if_pos c]
    rw [if_pos (by simp; omega)]
    exact Ev.now _
  · obtain ⟨b, i3, g3, e3, lb, p3, q3⟩ := l1DrawAny_ex s (by omega) i2 g2 p2 q2
    refine ⟨a, b, Ev.bind e ?_, la⟩
    refine Ev.bind e1 ?_
    simp only [e2, Option.bind_some, if_neg c]
    refine Ev.bind e3 ?_
    exact Ev.now _

theorem l1In_eq (a b c : Int) : spec_l1In.f a b c = some (decide (b ≤ a) && decide (a ≤ c)) := by
  unfold spec_l1In.f
  by_cases h : a ≥ b
  · rw [if_pos h]; simp [show b ≤ a from h]
  · rw [if_neg h]; simp [show ¬ b ≤ a from h]
theorem specNatOk_l (x : List Int) (hx : x.length ≤ 4611686018427387904) (d : Nat) : ∀ i : Nat, i + d = x.length → Ev (fun k => spec_NatOk.l0 k x (i : Int)) (((x.drop i).all fun y => decide (0 ≤ y) && decide (y ≤ 9999)) && decide (x.length ≤ 100) && (x.isEmpty || rd x ((x.length : Int) - 1) != 0)) := by
  induction d with
  | zero =>
    intro i hi
    refine Ev.step (fun k => by rw [spec_NatOk.l0]) ?_
    simp only [if_neg (show ¬ (i : Int) < (x.length : Int) by omega)]
    rw [List.drop_of_length_le (show x.length ≤ i by omega)]
    by_cases h1 : x.length ≤ 100
    · simp only [if_pos (show (x.length : Int) ≤ 100 by omega)]
      by_cases h2 : x.length = 0
      · simp only [if_pos (show (x.length : Int) = 0 by omega)]
        exact (Ev.now true).cast (by simp [List.length_eq_zero_iff.1 h2])
      · have hw : wrap64 ((x.length : Int) - 1) = (x.length : Int) - 1 := wrap_id (by omega) (by omega)
        simp only [if_neg (show ¬ (x.length : Int) = 0 by omega), hw, if_pos (show 0 ≤ (x.length : Int) - 1 by omega), if_pos (show (x.length : Int) - 1 < (x.length : Int) by omega)]
        have hne : x.isEmpty = false := by cases x; simp at h2; rfl
        exact (Ev.now _).cast (by simp [h1, hne])
    · simp only [if_neg (show ¬ (x.length : Int) ≤ 100 by omega)]
      exact (Ev.now false).cast (by simp [h1])
  | succ d ih =>
    intro i hi
    refine Ev.step (fun k => by rw [spec_NatOk.l0]) ?_
    simp only [if_pos (show (i : Int) < (x.length : Int) by omega), if_pos (show 0 ≤ (i : Int) by omega), l1In_eq, Option.bind_some, wrap_succ (show i < 9223372036854775807 by omega)]
    rw [drop_rd x i (by omega), List.all_cons]
    by_cases h : (decide (0 ≤ rd x (i : Int)) && decide (rd x (i : Int) ≤ 9999)) = true
    · simp only [if_pos h]
      exact (ih (i + 1) (by omega)).cast (by rw [h]; simp)
    · simp only [if_neg h]
      exact (Ev.now false).cast (by rw [Bool.not_eq_true] at h; rw [h]; simp)
theorem specNatOk_ev (x : List Int) (hx : x.length ≤ 4611686018427387904) : Ev (fun k => spec_NatOk.f k x) (nok x) := by
  simp only [spec_NatOk.f]
  exact (specNatOk_l x hx x.length 0 (by omega)).cast (by simp [nok])

theorem l1Both_ev (a b : List Int) (ha : a.length ≤ 1048576) (hb : b.length ≤ 1048576) : Ev (fun k => spec_l1Both.f k a b) (nok a && nok b) := by
  simp only [spec_l1Both.f]
  refine Ev.bind (specNatOk_ev a (by omega)) ?_
  by_cases h : nok a = true
  · simp only [h, if_true]
    refine Ev.bind (specNatOk_ev b (by omega)) ?_
    exact (Ev.now _).cast (by simp)
  · rw [Bool.not_eq_true] at h
    simp only [h, Bool.false_eq_true, if_false]
    exact (Ev.now _).cast (by simp)

theorem l1Limb_eq (a : List Int) (i : Nat) : spec_l1Limb.f a (i : Int) = some (lm a (i : Int)) := by
  unfold spec_l1Limb.f lm
  split
  · rw [if_pos (by omega)]
  · rfl

theorem l1Carry_end (x : List Int) (c : Nat) : ∀ (i : Nat) (out : List Int), x.length ≤ i → i + c ≤ 4611686018427387904 → out.length + c < 17592186044416 → Ev (fun k => spec_l1Carry.l0 k x out (c : Int) (i : Int)) (tr (out ++ dg c)) := by
  induction c using Nat.strongRecOn with
  | ind c ih =>
    intro i out hi hic ho
    refine Ev.step (fun k => by rw [spec_l1Carry.l0]) ?_
    simp only [if_neg (show ¬ (i : Int) < (x.length : Int) by omega)]
    rcases Nat.eq_zero_or_pos c with h | h
    · subst h
      simp only [if_neg (show ¬ ((0 : Nat) : Int) > 0 by omega)]
      refine Ev.bind (l1Trim_ev out (by omega)) ?_
      exact (Ev.now _).cast (by simp [dg_zero])
    · have h0 : lm x (i : Int) = 0 := by unfold lm; rw [if_neg (by omega)]
      simp only [if_pos (show (c : Int) > 0 by omega), l1Limb_eq, h0, Option.bind_some, if_pos (show out.length < 17592186044416 by omega), wrap_succ (show i < 9223372036854775807 by omega), Int.zero_add, wrap_id (show -9223372036854775808 ≤ (c : Int) by omega) (show (c : Int) ≤ 9223372036854775807 by omega), tmod4, tdiv4, wrap_id (show -9223372036854775808 ≤ ((c / 10000 : Nat) : Int) by omega) (show ((c / 10000 : Nat) : Int) ≤ 9223372036854775807 by omega)]
      refine (ih (c / 10000) (by omega) (i + 1) _ (by omega) (by omega) (by simp; omega)).cast ?_
      rw [dg_pos h]; simp
theorem l1Carry_l (x : List Int) (hx : ∀ y ∈ x, 0 ≤ y ∧ y ≤ 1000000000000) (hl : x.length ≤ 1000000000) (d : Nat) : ∀ (i c : Nat) (out : List Int), i + d = x.length → c ≤ 1000000000000 → out.length ≤ i → Ev (fun k => spec_l1Carry.l0 k x out (c : Int) (i : Int)) (tr (out ++ crr (x.drop i) c)) := by
  induction d with
  | zero =>
    intro i c out hi hc ho
    rw [List.drop_of_length_le (show x.length ≤ i by omega), crr]
    exact l1Carry_end x c i out (by omega) (by omega) (by omega)
  | succ d ih =>
    intro i c out hi hc ho
    refine Ev.step (fun k => by rw [spec_l1Carry.l0]) ?_
    have hm := hx (rd x (i : Int)) (by rw [rd_lt x i (by omega)]; exact List.getElem_mem _)
    have h0 : lm x (i : Int) = rd x (i : Int) := by unfold lm; rw [if_pos (by omega)]
    obtain ⟨y, hy⟩ := Int.eq_ofNat_of_zero_le hm.1
    have hs : wrap64 (rd x (i : Int) + (c : Int)) = ((y + c : Nat) : Int) := by rw [hy, wrap_id (by omega) (by omega)]; omega
    simp only [if_pos (show (i : Int) < (x.length : Int) by omega), l1Limb_eq, h0, Option.bind_some, if_pos (show out.length < 17592186044416 by omega), wrap_succ (show i < 9223372036854775807 by omega), hs, tmod4, tdiv4, wrap_id (show -9223372036854775808 ≤ (((y + c) / 10000 : Nat) : Int) by omega) (show (((y + c) / 10000 : Nat) : Int) ≤ 9223372036854775807 by omega)]
    refine (ih (i + 1) _ _ (by omega) (by omega) (by simp; omega)).cast ?_
    rw [drop_rd x i (by omega), crr, hy]; simp
theorem l1Carry_ev (x : List Int) (hx : ∀ y ∈ x, 0 ≤ y ∧ y ≤ 1000000000000) (hl : x.length ≤ 1000000000) : Ev (fun k => spec_l1Carry.f k x) (dg (nv x)) := by
  simp only [spec_l1Carry.f]
  refine (l1Carry_l x hx hl x.length 0 0 [] (by omega) (by omega) (by simp)).cast ?_
  rw [List.nil_append, List.drop_zero, tr_dg (crr_ok _ _), crr_nv, Nat.add_zero]

theorem dg_drop (m : Nat) (j : Nat) : (dg m).drop j = dg (m / 10000 ^ j) := by
  induction j with
  | zero => simp
  | succ j ih => rw [dg_step ih, Nat.pow_succ, Nat.div_div_eq_div_mul]
theorem dg_lm' (m j : Nat) : lm (dg m) (j : Int) = ((m / 10000 ^ j % 10000 : Nat) : Int) := dg_lm (dg_drop m j)
/-- -1, 0 or 1. -/
def cmpN (m n : Nat) : Int := if m < n then -1 else if m > n then 1 else 0
theorem up_lt {m n j : Nat} (h : m / 10000 ^ (j + 1) = n / 10000 ^ (j + 1)) (hl : m / 10000 ^ j % 10000 < n / 10000 ^ j % 10000) : m < n := by
  rcases Nat.lt_or_ge m n with h1 | h1
  · exact h1
  · exfalso
    have h2 : n / 10000 ^ j ≤ m / 10000 ^ j := Nat.div_le_div_right h1
    rw [Nat.pow_succ, ← Nat.div_div_eq_div_mul, ← Nat.div_div_eq_div_mul] at h
    omega
theorem up_eq {m n j : Nat} (h : m / 10000 ^ (j + 1) = n / 10000 ^ (j + 1)) (hl : m / 10000 ^ j % 10000 = n / 10000 ^ j % 10000) : m / 10000 ^ j = n / 10000 ^ j := by
  rw [Nat.pow_succ, ← Nat.div_div_eq_div_mul, ← Nat.div_div_eq_div_mul] at h
  omega
theorem top_zero {m j : Nat} (h : (dg m).length ≤ j) : m / 10000 ^ j = 0 := Nat.div_eq_of_lt (dg_len.1 h)
def cmpR (a b : List Int) : Int := if nok a = true ∧ nok b = true then cmpN (nv a) (nv b) else 2
theorem pw_len {j : Nat} (h : j ≤ 1000) : (dg (2 ^ j)).length ≤ 100 := by
  rw [dg_len]
  exact Nat.lt_of_le_of_lt (Nat.pow_le_pow_right (by omega) h) pow_room
theorem pw_nok {j : Nat} (h : j ≤ 1000) : nok (dg (2 ^ j)) = true := by rw [nok_dg]; exact decide_eq_true (pw_len h)
theorem pw_twice (j : Nat) : 2 ^ j + 2 ^ j = 2 ^ (j + 1) := by rw [Nat.pow_succ]; omega
theorem dg_one : ([1] : List Int) = dg (2 ^ 0) := by rw [dg_pos (by omega)]; simp [dg_zero]

theorem mul_e3 {o w : Nat} (ho : o ≤ 1010000000000) (hw : w ≤ 99980001) : wrap64 ((o : Int) + (w : Int)) = ((o + w : Nat) : Int) := by
  rw [wrap_id (by omega) (by omega)]; omega
theorem mul_up {o w s t : Nat} (h : (o : Int) ≤ ((s + t : Nat) : Int) * 100000000) (hw : w ≤ 99980001) : 0 ≤ ((o + w : Nat) : Int) ∧ ((o + w : Nat) : Int) ≤ ((s + (t + 1) : Nat) : Int) * 100000000 := by omega
theorem mul_ob {o s : Nat} (h : (o : Int) ≤ (s : Int) * 100000000) (hs : s ≤ 10100) : o ≤ 1010000000000 := by omega
theorem specMul_in (a b : List Int) (hla : a.length ≤ 100) (hlb : b.length ≤ 100) (i x : Nat) (hi : i < a.length) (hx : x < 10000) (hxr : rd a (i : Int) = (x : Int)) (r : List Int × Bool) (d : Nat) : ∀ (j nj P : Nat) (L : List Int), j + d = b.length → b.drop j = dg nj → (∀ _ : Unit, 10000 ^ (i + j) = P) → L.length = a.length + b.length →
    (∀ y ∈ L, 0 ≤ y ∧ y ≤ ((i * b.length + j : Nat) : Int) * 100000000) →
    (∀ L' : List Int, L'.length = a.length + b.length → (∀ y ∈ L', 0 ≤ y ∧ y ≤ (((i + 1) * b.length : Nat) : Int) * 100000000) → nv L' = nv L + x * (nj * P) → Ev (fun k => spec_MulNat.l0 k a b L' ((i + 1 : Nat) : Int)) r) →
    Ev (fun k => spec_MulNat.l1 k a b L (i : Int) (j : Int)) r := by
  have hib : i * b.length ≤ 10000 := Nat.mul_le_mul (show i ≤ 100 by omega) hlb
  induction d with
  | zero =>
    intro j nj P L hj hnj hP hL hy hk
    refine Ev.step (fun k => by rw [spec_MulNat.l1]) ?_
    simp only [if_neg (show ¬ (j : Int) < (b.length : Int) by omega), wrap_succ (show i < 9223372036854775807 by omega)]
    refine hk L hL (fun y h => ?_) ?_
    · have := hy y h
      rw [Nat.succ_mul]; omega
    · have := dg_lt hnj
      have h0 : nj = 0 := by omega
      rw [h0]; simp
  | succ d ih =>
    intro j nj P L hj hnj hP hL hy hk
    refine Ev.step (fun k => by rw [spec_MulNat.l1]) ?_
    have e1 : wrap64 ((i : Int) + (j : Int)) = ((i + j : Nat) : Int) := by rw [wrap_id (by omega) (by omega)]; omega
    have hz := dg_rd hnj
    obtain ⟨z, hzz⟩ : ∃ z, nj % 10000 = z := ⟨_, rfl⟩
    have hz1 : z < 10000 := by omega
    rw [hzz] at hz
    have hxy := mul_small hx hz1
    have hmem : rd L ((i + j : Nat) : Int) ∈ L := by rw [rd_lt L (i + j) (by omega)]; exact List.getElem_mem _
    have hb := hy _ hmem
    obtain ⟨o, ho⟩ := Int.eq_ofNat_of_zero_le hb.1
    obtain ⟨w, hw⟩ : ∃ w, x * z = w := ⟨_, rfl⟩
    rw [hw] at hxy
    have e2 : wrap64 ((x : Int) * (z : Int)) = (w : Int) := by
      rw [← Int.natCast_mul, hw, wrap_id (by omega) (by omega)]
    have e3 : wrap64 ((o : Int) + (w : Int)) = ((o + w : Nat) : Int) := mul_e3 (mul_ob (s := i * b.length + j) (by rw [← ho]; exact hb.2) (by omega)) hxy
    simp only [if_pos (show (j : Int) < (b.length : Int) by omega), e1, if_pos (show 0 ≤ ((i + j : Nat) : Int) by omega), if_pos (show ((i + j : Nat) : Int) < (L.length : Int) by omega), if_pos (show 0 ≤ (i : Int) by omega), if_pos (show (i : Int) < (a.length : Int) by omega), if_pos (show 0 ≤ (j : Int) by omega), wrap_succ (show j < 9223372036854775807 by omega), hxr, hz, ho, e2, e3, Int.toNat_natCast]
    have hjd : j + 1 + d = b.length := by omega
    have hlt : i + j < L.length := by omega
    have hs := nv_set L (i + j) ((o + w : Nat) : Int) hlt
    rw [ho, Int.toNat_natCast, Int.toNat_natCast, hP (), Nat.add_mul] at hs
    refine ih (j + 1) (nj / 10000) (P * 10000) _ hjd (dg_step hnj) (fun _ => by rw [show i + (j + 1) = (i + j) + 1 from rfl, Nat.pow_succ, hP ()]) (by simpa using hL) (fun y h => ?_) (fun L' h1 h2 h3 => hk L' h1 h2 ?_)
    · clear hs
      rcases List.mem_or_eq_of_mem_set h with h | h
      · have := hy y h; refine ⟨this.1, Int.le_trans this.2 ?_⟩; omega
      · subst h
        have h5 : (o : Int) ≤ ((i * b.length + j : Nat) : Int) * 100000000 := by rw [← ho]; exact hb.2
        exact mul_up h5 hxy
    · have hra := row_add (x := x) (q := nj / 10000) (y := z) (P := P) (A := nv (L.set (i + j) ((o + w : Nat) : Int))) (B := nv L) (by rw [hw]; clear hk ih hy hjd hlt hb hxy; omega)
      rw [show nj / 10000 * 10000 + z = nj by omega] at hra
      rw [h3]
      exact hra
theorem specMul_out (a b : List Int) (n T : Nat) (hb : b = dg n) (hla : a.length ≤ 100) (hlb : b.length ≤ 100) (hT : (dg T).length ≤ 1000) (d : Nat) : ∀ (i mi P : Nat) (L : List Int), i + d = a.length → a.drop i = dg mi → (∀ _ : Unit, 10000 ^ i = P) → L.length = a.length + b.length →
    (∀ y ∈ L, 0 ≤ y ∧ y ≤ ((i * b.length : Nat) : Int) * 100000000) → nv L + mi * P * n = T → Ev (fun k => spec_MulNat.l0 k a b L (i : Int)) (if nok (dg T) = true then (dg T, true) else ([], false)) := by
  induction d with
  | zero =>
    intro i mi P L hi hmi hP hL hy hn
    refine Ev.step (fun k => by rw [spec_MulNat.l0]) ?_
    simp only [if_neg (show ¬ (i : Int) < (a.length : Int) by omega)]
    have hib : i * b.length ≤ 10000 := Nat.mul_le_mul (show i ≤ 100 by omega) hlb
    have := dg_lt hmi
    have h0 : mi = 0 := by omega
    rw [h0] at hn
    simp only [Nat.zero_mul, Nat.add_zero] at hn
    refine Ev.bind (l1Carry_ev L (fun y h => by have := hy y h; omega) (by omega)) ?_
    rw [hn]
    refine Ev.bind (specNatOk_ev _ (by omega)) ?_
    by_cases e : nok (dg T) = true
    · simp only [if_pos e]; exact Ev.now _
    · simp only [if_neg e]; exact Ev.now _
  | succ d ih =>
    intro i mi P L hi hmi hP hL hy hn
    refine Ev.step (fun k => by rw [spec_MulNat.l0]) ?_
    simp only [if_pos (show (i : Int) < (a.length : Int) by omega)]
    refine specMul_in a b hla hlb i (mi % 10000) (by omega) (Nat.mod_lt _ (by omega)) (dg_rd hmi) _ b.length 0 n P L (by omega) hb (fun _ => hP ()) hL (fun y h => by have := hy y h; simpa using this) (fun L' h1 h2 h3 => ih (i + 1) (mi / 10000) (P * 10000) L' (by omega) (dg_step hmi) (fun _ => by rw [Nat.pow_succ, hP ()]) h1 h2 ?_)
    refine row_next (x := mi % 10000) (B := nv L) h3 ?_
    rw [show mi / 10000 * 10000 + mi % 10000 = mi by omega]
    exact hn
theorem specMul_ev (a b : List Int) (ha : a.length ≤ 1048576) (hb : b.length ≤ 1048576) : Ev (fun k => spec_MulNat.f k a b) (mulR a b) := by
  simp only [spec_MulNat.f]
  refine Ev.bind (l1Both_ev a b ha hb) ?_
  by_cases h : (nok a && nok b) = true
  · simp only [if_pos h]
    rw [Bool.and_eq_true] at h
    obtain ⟨m, rfl, hm⟩ := nok_ex h.1
    obtain ⟨n, rfl, hn⟩ := nok_ex h.2
    have e1 : wrap64 (((dg m).length : Int) + ((dg n).length : Int)) = (((dg m).length + (dg n).length : Nat) : Int) := by rw [wrap_id (by omega) (by omega)]; omega
    have hml := mul_len hm hn
    simp only [e1, if_pos (show 0 ≤ (((dg m).length + (dg n).length : Nat) : Int) by omega), Int.toNat_natCast, if_pos (show (dg m).length + (dg n).length ≤ 35184372088832 by omega)]
    refine (specMul_out (dg m) (dg n) n (m * n) rfl hm hn (by omega) (dg m).length 0 m 1 _ (by omega) rfl (fun _ => rfl) (by simp) (fun y h' => ?_) ?_).cast ?_
    · rw [List.mem_replicate] at h'; rw [h'.2]; simp
    · rw [nv_zeros]; simp
    · rw [mulR_dg h.1 h.2, nok_dg]
      by_cases e : (dg (m * n)).length ≤ 100
      · rw [if_pos (by simpa using e), if_pos e]
      · rw [if_neg (by simpa using e), if_neg e]
  · simp only [if_neg h]
    exact (Ev.now _).cast (by rw [mulR, if_neg (by simp at h; intro h'; rw [h h'.1] at h'; simp at h')])

theorem implNatOk_l (x : List Int) (hx : x.length ≤ 100) (d : Nat) : ∀ i : Nat, i + d = x.length → Ev (fun k => impl_NatOk.l0 k x x (x.length : Int) (i : Int)) (((x.drop i).all fun y => decide (0 ≤ y) && decide (y ≤ 9999)) && (x.isEmpty || rd x ((x.length : Int) - 1) != 0)) := by
  induction d with
  | zero =>
    intro i hi
    refine Ev.step (fun k => by rw [impl_NatOk.l0]) ?_
    simp only [if_neg (show ¬ (i : Int) < (x.length : Int) by omega)]
    rw [List.drop_of_length_le (show x.length ≤ i by omega)]
    by_cases h2 : x.length = 0
    · simp only [if_pos (show (x.length : Int) = 0 by omega)]
      exact (Ev.now true).cast (by simp [List.length_eq_zero_iff.1 h2])
    · have hw : wrap64 ((x.length : Int) - 1) = (x.length : Int) - 1 := wrap_id (by omega) (by omega)
      simp only [if_neg (show ¬ (x.length : Int) = 0 by omega), hw, if_pos (show 0 ≤ (x.length : Int) - 1 by omega), if_pos (show (x.length : Int) - 1 < (x.length : Int) by omega)]
      have hne : x.isEmpty = false := by cases x; simp at h2; rfl
      exact (Ev.now _).cast (by simp [hne])
  | succ d ih =>
    intro i hi
    refine Ev.step (fun k => by rw [impl_NatOk.l0]) ?_
    simp only [if_pos (show (i : Int) < (x.length : Int) by omega), if_pos (show 0 ≤ (i : Int) by omega), wrap_succ (show i < 9223372036854775807 by omega)]
    rw [drop_rd x i (by omega), List.all_cons]
    by_cases h : rd x (i : Int) < 0
    · simp only [if_pos h]
      exact (Ev.now false).cast (by rw [decide_eq_false (show ¬ 0 ≤ rd x (i : Int) by omega)]; simp)
    · simp only [if_neg h]
      by_cases h' : rd x (i : Int) ≥ 10000
      · simp only [if_pos h']
        exact (Ev.now false).cast (by rw [decide_eq_false (show ¬ rd x (i : Int) ≤ 9999 by omega)]; simp)
      · simp only [if_neg h']
        exact (ih (i + 1) (by omega)).cast (by rw [decide_eq_true (show 0 ≤ rd x (i : Int) by omega), decide_eq_true (show rd x (i : Int) ≤ 9999 by omega)]; simp)
theorem implNatOk_ev (x : List Int) : Ev (fun k => impl_NatOk.f k x) (nok x) := by
  simp only [impl_NatOk.f]
  by_cases h : x.length ≤ 100
  · simp only [if_neg (show ¬ (x.length : Int) > 100 by omega)]
    exact (implNatOk_l x h x.length 0 (by omega)).cast (by simp [nok, h])
  · simp only [if_pos (show (x.length : Int) > 100 by omega)]
    exact (Ev.now false).cast (by simp [nok, h])

theorem place_eq (a : List Int) (i : Nat) : impl_great_place.f a (i : Int) = some (lm a (i : Int)) := by
  unfold impl_great_place.f lm
  split
  · rw [if_pos (by omega)]
  · rfl

theorem trimmed_l (d : Nat) : ∀ (a : List Int), a.length = d → d ≤ 4611686018427387904 → Ev (fun k => impl_great_trimmed.l0 k a) (tr a) := by
  induction d with
  | zero =>
    intro a ha hd
    refine Ev.step (fun k => by rw [impl_great_trimmed.l0]) ?_
    simp only [if_neg (show ¬ (a.length : Int) > 0 by omega)]
    exact (Ev.now _).cast (by rw [List.length_eq_zero_iff.1 ha]; rfl)
  | succ d ih =>
    intro a ha hd
    refine Ev.step (fun k => by rw [impl_great_trimmed.l0]) ?_
    have hw : wrap64 ((a.length : Int) - 1) = (d : Int) := by rw [ha, wrap_id (by omega) (by omega)]; omega
    simp only [if_pos (show (a.length : Int) > 0 by omega), hw, if_pos (show 0 ≤ (d : Int) by omega), if_pos (show (d : Int) < (a.length : Int) by omega), Int.toNat_natCast]
    have e := take_rd a d (by omega)
    rw [List.take_of_length_le (by omega)] at e
    by_cases c : rd a (d : Int) = 0
    · simp only [if_pos c, if_pos (show (d : Int) ≤ (a.length : Int) by omega)]
      refine (ih (a.take d) (by simp; omega) (by omega)).cast ?_
      rw [c] at e
      rw [show tr a = tr (a.take d ++ [0]) from congrArg tr e, tr_snoc0]
    · simp only [if_neg c]
      refine (Ev.now _).cast ?_
      rw [show tr a = tr (a.take d ++ [rd a (d : Int)]) from congrArg tr e, tr_snoc c, ← e]
theorem trimmed_ev (a : List Int) (h : a.length ≤ 4611686018427387904) : Ev (fun k => impl_great_trimmed.f k a) (tr a) := by
  simp only [impl_great_trimmed.f]
  exact trimmed_l a.length a rfl h

theorem times_e3 {o w c : Nat} (ho : o < 10000) (hw : w ≤ 99980001) (hc : c ≤ 9999) : wrap64 (wrap64 ((o : Int) + (w : Int)) + (c : Int)) = ((o + w + c : Nat) : Int) := by
  rw [wrap_id (x := (o : Int) + (w : Int)) (by omega) (by omega), wrap_id (by omega) (by omega)]; omega
theorem times_hsm {o w c : Nat} (ho : o < 10000) (hw : w ≤ 99980001) (hc : c ≤ 9999) : wrap64 (((o + w + c) / 10000 : Nat) : Int) = (((o + w + c) / 10000 : Nat) : Int) := wrap_id (by omega) (by omega)
theorem times_c {o w c : Nat} (ho : o < 10000) (hw : w ≤ 99980001) (hc : c ≤ 9999) : (o + w + c) / 10000 ≤ 9999 := by omega
theorem times_e2 {x z w : Nat} (hw : x * z = w) (hxy : w ≤ 99980001) : wrap64 ((x : Int) * (z : Int)) = (w : Int) := by
  rw [← Int.natCast_mul, hw, wrap_id (by omega) (by omega)]
theorem times_z {o w c : Nat} (ho : o = 0) (hw : w = 0) (hc : c ≤ 9999) : (o + w + c) / 10000 = 0 := by omega
theorem times_dig (s : Nat) : 0 ≤ ((s % 10000 : Nat) : Int) ∧ ((s % 10000 : Nat) : Int) < 10000 := by omega
theorem times_in (a b : List Int) (hla : a.length ≤ 100) (hlb : b.length ≤ 100) (i x : Nat) (hi : i < a.length) (hx : x < 10000) (r : List Int) (d : Nat) : ∀ (j c nj P : Nat) (L : List Int), j + d = b.length + 1 → b.drop j = dg nj → (∀ _ : Unit, 10000 ^ (i + j) = P) → L.length = a.length + b.length →
    dok L → c ≤ 9999 → (∀ t : Nat, i + b.length + 1 ≤ t → rd L (t : Int) = 0) → (j ≤ b.length → rd L ((i + b.length : Nat) : Int) = 0) → (j ≤ b.length ∨ c = 0) →
    (∀ L' : List Int, L'.length = a.length + b.length → dok L' → (∀ t : Nat, i + b.length + 1 ≤ t → rd L' (t : Int) = 0) → nv L' = nv L + (c + x * nj) * P → Ev (fun k => impl_great_times.l0 k b L' a (a.length : Int) ((i + 1 : Nat) : Int)) r) →
    Ev (fun k => impl_great_times.l1 k b L (i : Int) (x : Int) (c : Int) (j : Int) a (a.length : Int) (i : Int)) r := by
  induction d with
  | zero =>
    intro j c nj P L hj hnj hP hL hd hc hz hz' hjc hk
    refine Ev.step (fun k => by rw [impl_great_times.l1]) ?_
    obtain rfl : c = 0 := by omega
    simp only [if_neg (show ¬ (j : Int) < (b.length : Int) by omega), if_neg (show ¬ ((0 : Nat) : Int) > 0 by omega), wrap_succ (show i < 9223372036854775807 by omega)]
    refine hk L hL hd hz ?_
    have := dg_lt hnj
    have h0 : nj = 0 := by omega
    rw [h0]; simp
  | succ d ih =>
    intro j c nj P L hj hnj hP hL hd hc hz hz' hjc hk
    refine Ev.step (fun k => by rw [impl_great_times.l1]) ?_
    have hjl := dg_lt hnj
    by_cases hend : j = b.length ∧ c = 0
    · obtain ⟨hjn, rfl⟩ := hend
      simp only [if_neg (show ¬ (j : Int) < (b.length : Int) by omega), if_neg (show ¬ ((0 : Nat) : Int) > 0 by omega), wrap_succ (show i < 9223372036854775807 by omega)]
      refine hk L hL hd hz ?_
      have h0 : nj = 0 := by omega
      rw [h0]; simp
    · have hjle : j ≤ b.length := by omega
      have hcc : Aside0 (¬ j < b.length → 0 < c) := ⟨fun h => by omega⟩
      have hn0 : Aside0 (¬ j < b.length → nj = 0) := ⟨fun h => by omega⟩
      clear hend hjc hjl
      have e1 : wrap64 ((i : Int) + (j : Int)) = ((i + j : Nat) : Int) := by rw [wrap_id (by omega) (by omega)]; omega
      have hzr := dg_lm hnj
      obtain ⟨z, hzz⟩ : ∃ z, nj % 10000 = z := ⟨_, rfl⟩
      have hz1 : z < 10000 := by omega
      rw [hzz] at hzr
      have hxy := mul_small hx hz1
      have hmem : rd L ((i + j : Nat) : Int) ∈ L := by rw [rd_lt L (i + j) (by omega)]; exact List.getElem_mem _
      have hb := hd _ hmem
      obtain ⟨o, ho⟩ := Int.eq_ofNat_of_zero_le hb.1
      have ho' : o < 10000 := by have := hb.2; rw [ho] at this; omega
      obtain ⟨w, hw⟩ : ∃ w, x * z = w := ⟨_, rfl⟩
      rw [hw] at hxy
      have e2 : wrap64 ((x : Int) * (z : Int)) = (w : Int) := times_e2 hw hxy
      have e3 : wrap64 (wrap64 ((o : Int) + (w : Int)) + (c : Int)) = ((o + w + c : Nat) : Int) := times_e3 ho' hxy hc
      have hrec : Ev (fun k => impl_great_times.l1 k b (L.set (i + j) (((o + w + c) % 10000 : Nat) : Int)) (i : Int) (x : Int) (((o + w + c) / 10000 : Nat) : Int) ((j + 1 : Nat) : Int) a (a.length : Int) (i : Int)) r := by
        have hjd : j + 1 + d = b.length + 1 := by omega
        have hlt : i + j < L.length := by omega
        have hset := nv_set L (i + j) (((o + w + c) % 10000 : Nat) : Int) hlt
        rw [ho, Int.toNat_natCast, Int.toNat_natCast, hP ()] at hset
        refine ih (j + 1) ((o + w + c) / 10000) (nj / 10000) (P * 10000) _ hjd (dg_step hnj) (fun _ => by rw [show i + (j + 1) = (i + j) + 1 from rfl, Nat.pow_succ, hP ()]) (by simpa using hL) ?_ (times_c ho' hxy hc) ?_ ?_ ?_ ?_
        · clear hset
          intro y h
          rcases List.mem_or_eq_of_mem_set h with h | h
          · exact hd y h
          · subst h; exact times_dig _
        · clear hset
          intro t ht
          rw [rd_set, if_neg (fun h4 => by omega)]; exact hz t ht
        · clear hset
          intro h
          rw [rd_set, if_neg (fun h4 => by omega)]; exact hz' (by omega)
        · clear hset
          rcases Nat.lt_or_ge j b.length with h | h
          · left; omega
          · right
            have hjb : j = b.length := by omega
            have h1 := hz' (by omega)
            rw [← hjb, ho] at h1
            have h2 : z = 0 := by rw [← hzz, hn0.out (Nat.not_lt.2 h)]
            rw [h2, Nat.mul_zero] at hw
            exact times_z (Int.ofNat_inj.1 h1) hw.symm hc
        · intro L' h1 h2 h3 h4
          refine hk L' h1 h2 h3 ?_
          have hca := carry_add (x := x) (q := nj / 10000) (y := z) (c := c) (s2 := (o + w + c) / 10000) (o := o) (s1 := (o + w + c) % 10000) hset (by rw [hw]; exact Nat.mod_add_div _ _)
          rw [show nj / 10000 * 10000 + z = nj by omega] at hca
          rw [h4]
          exact hca
      have hsm : wrap64 (((o + w + c) / 10000 : Nat) : Int) = (((o + w + c) / 10000 : Nat) : Int) := times_hsm ho' hxy hc
      by_cases hjb : j < b.length
      · simp only [if_pos (show (j : Int) < (b.length : Int) by omega), e1, if_pos (show 0 ≤ ((i + j : Nat) : Int) by omega), if_pos (show ((i + j : Nat) : Int) < (L.length : Int) by omega), place_eq, hzr, Option.bind_some, wrap_succ (show j < 9223372036854775807 by omega), ho, e2, e3, tmod4, tdiv4, hsm, Int.toNat_natCast]
        exact hrec
      · have qc : (c : Int) > 0 := Int.natCast_pos.2 (hcc.out hjb)
        have qj : ¬ (j : Int) < (b.length : Int) := fun h => hjb (Int.ofNat_lt.1 h)
        simp only [if_neg qj, if_pos qc, e1, if_pos (show 0 ≤ ((i + j : Nat) : Int) by omega), if_pos (show ((i + j : Nat) : Int) < (L.length : Int) by omega), place_eq, hzr, Option.bind_some, wrap_succ (show j < 9223372036854775807 by omega), ho, e2, e3, tmod4, tdiv4, hsm, Int.toNat_natCast]
        exact hrec
theorem times_out (a b : List Int) (n T : Nat) (hb : b = dg n) (hla : a.length ≤ 100) (hlb : b.length ≤ 100) (d : Nat) : ∀ (i mi P : Nat) (L : List Int), i + d = a.length → a.drop i = dg mi → (∀ _ : Unit, 10000 ^ i = P) → L.length = a.length + b.length →
    dok L → (∀ t : Nat, i + b.length ≤ t → rd L (t : Int) = 0) → nv L + mi * P * n = T → Ev (fun k => impl_great_times.l0 k b L a (a.length : Int) (i : Int)) (dg T) := by
  induction d with
  | zero =>
    intro i mi P L hi hmi hP hL hd hz hn
    refine Ev.step (fun k => by rw [impl_great_times.l0]) ?_
    simp only [if_neg (show ¬ (i : Int) < (a.length : Int) by omega)]
    have := dg_lt hmi
    have h0 : mi = 0 := by omega
    rw [h0] at hn
    simp only [Nat.zero_mul, Nat.add_zero] at hn
    refine Ev.bind (trimmed_ev L (by omega)) ?_
    rw [tr_dg hd, hn]
    exact Ev.now _
  | succ d ih =>
    intro i mi P L hi hmi hP hL hd hz hn
    refine Ev.step (fun k => by rw [impl_great_times.l0]) ?_
    simp only [if_pos (show (i : Int) < (a.length : Int) by omega), if_pos (show 0 ≤ (i : Int) by omega), dg_rd hmi]
    refine times_in a b hla hlb i (mi % 10000) (by omega) (Nat.mod_lt _ (by omega)) _ (b.length + 1) 0 0 n P L (by omega) hb (fun _ => hP ()) hL hd (by omega) (fun t ht => hz t (by omega)) (fun _ => hz _ (Nat.le_refl _)) (Or.inl (by omega)) (fun L' h1 h2 h3 h4 => ih (i + 1) (mi / 10000) (P * 10000) L' (by omega) (dg_step hmi) (fun _ => by rw [Nat.pow_succ, hP ()]) h1 h2 (fun t ht => h3 t (by omega)) ?_)
    refine row_next (x := mi % 10000) (B := nv L) (by rw [h4, Nat.zero_add, Nat.mul_assoc]) ?_
    rw [show mi / 10000 * 10000 + mi % 10000 = mi by omega]
    exact hn
theorem times_ev (m n : Nat) (hm : (dg m).length ≤ 100) (hn : (dg n).length ≤ 100) : Ev (fun k => impl_great_times.f k (dg m) (dg n)) (dg (m * n)) := by
  simp only [impl_great_times.f]
  have e1 : wrap64 (((dg m).length : Int) + ((dg n).length : Int)) = (((dg m).length + (dg n).length : Nat) : Int) := by rw [wrap_id (by omega) (by omega)]; omega
  simp only [e1, if_pos (show 0 ≤ (((dg m).length + (dg n).length : Nat) : Int) by omega), Int.toNat_natCast, if_pos (show (dg m).length + (dg n).length ≤ 35184372088832 by omega)]
  refine times_out (dg m) (dg n) n (m * n) rfl hm hn (dg m).length 0 m 1 _ (by omega) rfl (fun _ => rfl) (by simp) (fun y h' => ?_) (fun t ht => ?_) ?_
  · rw [List.mem_replicate] at h'; rw [h'.2]; omega
  · rw [rd_cast, List.getD_eq_getElem?_getD, List.getElem?_replicate]; split <;> rfl
  · rw [nv_zeros]; simp

theorem told_eq (l : List Int) : impl_told.f l = some (if l.length ≤ 100 then (l, true) else ([], false)) := by
  unfold impl_told.f
  by_cases h : l.length ≤ 100
  · rw [if_neg (by omega), if_pos h]
  · rw [if_pos (by omega), if_neg h]

theorem implMul_ev (a b : List Int) : Ev (fun k => impl_MulNat.f k a b) (mulR a b) := by
  simp only [impl_MulNat.f]
  refine Ev.bind (implNatOk_ev a) ?_
  by_cases h1 : nok a = true
  · simp only [if_pos h1]
    refine Ev.bind (implNatOk_ev b) ?_
    refine Ev.step (fun k => by rw [impl_MulNat.j0]) ?_
    by_cases h2 : nok b = true
    · simp only [h2, Bool.not_true, Bool.false_eq_true, if_false]
      obtain ⟨m, rfl, hm⟩ := nok_ex h1
      obtain ⟨n, rfl, hn⟩ := nok_ex h2
      refine Ev.bind (times_ev m n hm hn) ?_
      simp only [told_eq, Option.bind_some]
      exact (Ev.now _).cast (by rw [mulR_dg h1 h2])
    · simp only [Bool.not_eq_true] at h2
      simp only [h2, Bool.not_false, if_true]
      exact (Ev.now _).cast (by simp [mulR, h2])
  · simp only [if_neg h1]
    refine Ev.step (fun k => by rw [impl_MulNat.j0]) ?_
    simp only [if_true]
    exact (Ev.now _).cast (by simp [mulR, h1])

theorem plus_l (a b : List Int) (ha : a.length ≤ 1048576) (hb : b.length ≤ 1048576) (d : Nat) : ∀ (i m n c : Nat) (out : List Int), m + n + c ≤ d → a.drop i = dg m → b.drop i = dg n → c ≤ 1 → i ≤ 1048576 + 1 → out.length = i → (i ≤ 1048576 ∨ c = 0) → Ev (fun k => impl_great_plus.l0 k a b out (c : Int) (i : Int)) (out ++ dg (m + n + c)) := by
  induction d using Nat.strongRecOn with
  | ind d ih =>
    intro i m n c out hd hm hn hc hi ho hic
    have hstep : Ev (fun k => impl_great_plus.j1 k a b out (c : Int) (i : Int) (decide (0 < m ∨ 0 < n ∨ 0 < c))) (out ++ dg (m + n + c)) := by
      refine Ev.step (fun k => by rw [impl_great_plus.j1]) ?_
      by_cases h : 0 < m ∨ 0 < n ∨ 0 < c
      · have hil : i ≤ 1048576 := by rw [← dg_lt hm, ← dg_lt hn] at h; omega
        have hs : wrap64 ((wrap64 (((m % 10000 : Nat) : Int) + ((n % 10000 : Nat) : Int))) + (c : Int)) = ((m % 10000 + n % 10000 + c : Nat) : Int) := by rw [wrap_id (x := ((m % 10000 : Nat) : Int) + ((n % 10000 : Nat) : Int)) (by omega) (by omega), wrap_id (by omega) (by omega)]; omega
        simp only [decide_eq_true h, if_true, place_eq, dg_lm hm, dg_lm hn, Option.bind_some, if_pos (show out.length < 17592186044416 by omega), wrap_succ (show i < 9223372036854775807 by omega), hs, tmod4, tdiv4, wrap_id (show -9223372036854775808 ≤ (((m % 10000 + n % 10000 + c) / 10000 : Nat) : Int) by omega) (show (((m % 10000 + n % 10000 + c) / 10000 : Nat) : Int) ≤ 9223372036854775807 by omega)]
        refine (ih (m / 10000 + n / 10000 + (m % 10000 + n % 10000 + c) / 10000) (by omega) (i + 1) _ _ _ _ (Nat.le_refl _) (dg_step hm) (dg_step hn) (by omega) (by omega) (by simp; omega) ?_).cast ?_
        · rcases Nat.lt_or_ge i 1048576 with h1 | h1
          · left; omega
          · right
            have e1 : m = 0 := by have := dg_lt hm; omega
            have e2 : n = 0 := by have := dg_lt hn; omega
            subst e1; subst e2; omega
        · have e1 : (m + n + c) % 10000 = (m % 10000 + n % 10000 + c) % 10000 := by omega
          have e2 : (m + n + c) / 10000 = m / 10000 + n / 10000 + (m % 10000 + n % 10000 + c) / 10000 := by omega
          rw [dg_pos (n := m + n + c) (by omega), e1, e2]; simp
      · simp only [decide_eq_false h, Bool.false_eq_true, if_false]
        obtain rfl : m = 0 := by omega
        obtain rfl : n = 0 := by omega
        obtain rfl : c = 0 := by omega
        exact (Ev.now _).cast (by simp [dg_zero])
    refine Ev.step (fun k => by rw [impl_great_plus.l0]) ?_
    by_cases h : (i : Int) < (a.length : Int)
    · simp only [if_pos h]
      have h' : 0 < m := (dg_lt hm).1 (by omega)
      rw [decide_eq_true (Or.inl h')] at hstep
      exact hstep
    · simp only [if_neg h]
      have h' : ¬ 0 < m := fun e => h (by have := (dg_lt hm).2 e; omega)
      by_cases g : (i : Int) < (b.length : Int)
      · simp only [if_pos g]
        have g' : 0 < n := (dg_lt hn).1 (by omega)
        rw [decide_eq_true (Or.inr (Or.inl g'))] at hstep
        exact hstep
      · simp only [if_neg g]
        have g' : ¬ 0 < n := fun e => g (by have := (dg_lt hn).2 e; omega)
        have e : decide (0 < m ∨ 0 < n ∨ 0 < c) = decide ((c : Int) > 0) := by
          simp only [decide_eq_decide]; omega
        rw [e] at hstep
        exact hstep
theorem plus_ev (m n : Nat) (hm : (dg m).length ≤ 1048576) (hn : (dg n).length ≤ 1048576) : Ev (fun k => impl_great_plus.f k (dg m) (dg n)) (dg (m + n)) := by
  simp only [impl_great_plus.f]
  exact (plus_l (dg m) (dg n) hm hn (m + n + 0) 0 m n 0 [] (Nat.le_refl _) rfl rfl (by omega) (by omega) rfl (by omega)).cast (by simp)

theorem implAdd_ev (a b : List Int) : Ev (fun k => impl_AddNat.f k a b) (addR a b) := by
  simp only [impl_AddNat.f]
  refine Ev.bind (implNatOk_ev a) ?_
  by_cases h1 : nok a = true
  · simp only [if_pos h1]
    refine Ev.bind (implNatOk_ev b) ?_
    refine Ev.step (fun k => by rw [impl_AddNat.j0]) ?_
    by_cases h2 : nok b = true
    · simp only [h2, Bool.not_true, Bool.false_eq_true, if_false]
      obtain ⟨m, rfl, hm⟩ := nok_ex h1
      obtain ⟨n, rfl, hn⟩ := nok_ex h2
      refine Ev.bind (plus_ev m n (by omega) (by omega)) ?_
      simp only [told_eq, Option.bind_some]
      exact (Ev.now _).cast (by rw [addR_dg h1 h2])
    · simp only [Bool.not_eq_true] at h2
      simp only [h2, Bool.not_false, if_true]
      exact (Ev.now _).cast (by simp [addR, h2])
  · simp only [if_neg h1]
    refine Ev.step (fun k => by rw [impl_AddNat.j0]) ?_
    simp only [if_true]
    exact (Ev.now _).cast (by simp [addR, h1])

theorem likeInts_l (a : List Int) (ha : a.length ≤ 1048576) (d : Nat) : ∀ (i : Nat), i + d = a.length → Ev (fun k => laws_likeInts.l0 k a a (i : Int)) true := by
  induction d with
  | zero =>
    intro i hi
    refine Ev.step (fun k => by rw [laws_likeInts.l0]) ?_
    simp only [if_neg (show ¬ (i : Int) < (a.length : Int) by omega)]
    exact Ev.now _
  | succ d ih =>
    intro i hi
    refine Ev.step (fun k => by rw [laws_likeInts.l0]) ?_
    simp only [if_pos (show (i : Int) < (a.length : Int) by omega), if_pos (show 0 ≤ (i : Int) by omega), wrap_succ (show i < 9223372036854775807 by omega), if_true]
    exact ih (i + 1) (by omega)
theorem likeInts_ev (a : List Int) (ha : a.length ≤ 1048576) : Ev (fun k => laws_likeInts.f k a a) true := by
  simp only [laws_likeInts.f, if_true]
  exact likeInts_l a ha a.length 0 (by omega)

def Want_FnNatTimes : Prop := ∀ (l0 : List (Int)), (l0.length ≤ 9223372036854775807 ∧ ∀ u1 ∈ l0, (Lit.int .u8 u1).wf = true) → ∃ k, laws_FnNatTimes.f k l0 = some true
theorem mulR_len (a b : List Int) : (mulR a b).1.length ≤ 100 := by
  unfold mulR
  split
  · rename_i hh; exact hh.2.2
  · simp
theorem addR_ok {a b : List Int} (h : (addR a b).2 = true) : nok a = true ∧ nok b = true ∧ (dg (nv a + nv b)).length ≤ 100 ∧ addR a b = (dg (nv a + nv b), true) := by
  unfold addR at h ⊢
  split at h
  · rename_i hh; exact ⟨hh.1, hh.2.1, hh.2.2, if_pos hh⟩
  · simp at h
theorem mulR_ok {a b : List Int} (h : (mulR a b).2 = true) : nok a = true ∧ nok b = true ∧ (dg (nv a * nv b)).length ≤ 100 ∧ mulR a b = (dg (nv a * nv b), true) := by
  unfold mulR at h ⊢
  split at h
  · rename_i hh; exact ⟨hh.1, hh.2.1, hh.2.2, if_pos hh⟩
  · simp at h
theorem times_j1t (x y z : List Int) : Ev (fun k => laws_FnNatTimes.j1 k x y z true) true := by
  refine Ev.step (fun k => by rw [laws_FnNatTimes.j1]) ?_
  simp only [if_true]; exact Ev.now _
theorem times_j1f (a b c : List Int) (h1 : (mulR a b).2 = true) (h2 : (addR b c).2 = true) (h3 : (mulR a (addR b c).1).2 = true) (h4 : (mulR a c).2 = true) :
    Ev (fun k => laws_FnNatTimes.j1 k (mulR a b).1 (mulR a (addR b c).1).1 (mulR a c).1 false) true := by
  obtain ⟨p1, p2, p3, p4⟩ := mulR_ok h1
  obtain ⟨q1, q2, q3, q4⟩ := addR_ok h2
  rw [q4] at h3
  obtain ⟨r1, r2, r3, r4⟩ := mulR_ok h3
  obtain ⟨s1, s2, s3, s4⟩ := mulR_ok h4
  rw [q4, p4, s4]
  simp only [r4]
  rw [nv_dg] at r3 ⊢
  refine Ev.step (fun k => by rw [laws_FnNatTimes.j1]) ?_
  simp only [Bool.false_eq_true, if_false]
  have e : addR (dg (nv a * nv b)) (dg (nv a * nv c)) = (dg (nv a * (nv b + nv c)), true) := by
    rw [addR_dg (by rw [nok_dg, decide_eq_true p3]) (by rw [nok_dg, decide_eq_true s3]), ← Nat.mul_add, if_pos r3]
  refine Ev.bind (implAdd_ev _ _) ?_
  simp only [e, if_true]
  refine Ev.bind (likeInts_ev _ (by omega)) ?_
  simp only [if_true]
  refine Ev.bind (implNatOk_ev _) ?_
  exact (Ev.now _).cast (by rw [nok_dg, decide_eq_true r3])
theorem times_j (a b c : List Int) : Ev (fun k => laws_FnNatTimes.j0 k a b c (mulR a b).1 (mulR a b).2 (!true)) true := by
  refine Ev.step (fun k => by rw [laws_FnNatTimes.j0]) ?_
  simp only [Bool.not_true, Bool.false_eq_true, if_false]
  refine Ev.bind (implAdd_ev b c) ?_
  refine Ev.bind (implMul_ev a _) ?_
  refine Ev.bind (implMul_ev a c) ?_
  by_cases h1 : (mulR a b).2 = true
  · by_cases h2 : (addR b c).2 = true
    · by_cases h3 : (mulR a (addR b c).1).2 = true
      · by_cases h4 : (mulR a c).2 = true
        · have t := times_j1f a b c h1 h2 h3 h4
          simp only [if_pos h1, if_pos h2, if_pos h3, h4, Bool.not_true]
          exact t
        · rw [Bool.not_eq_true] at h4
          simp only [if_pos h1, if_pos h2, if_pos h3, h4, Bool.not_false]
          exact times_j1t _ _ _
      · simp only [if_pos h1, if_pos h2, if_neg h3]
        exact times_j1t _ _ _
    · simp only [if_pos h1, if_neg h2]
      exact times_j1t _ _ _
  · simp only [if_neg h1]
    exact times_j1t _ _ _
theorem FnNatTimes : Want_FnNatTimes := by
  intro s hq
  refine Ev.rounds ?_
  simp only [laws_FnNatTimes.f, laws_big.f, Option.bind_some]
  by_cases hb : (s.length : Int) > 4096
  · simp only [decide_eq_true hb, if_true]; exact Ev.now _
  simp only [decide_eq_false hb, Bool.false_eq_true, if_false]
  obtain ⟨a, b, ea, la, lb⟩ := drawMul_ex s (by omega)
  obtain ⟨c, d, ec, lc⟩ := drawCmp_ex s (by omega)
  refine Ev.bind ea ?_
  refine Ev.bind ec ?_
  refine Ev.bind (implMul_ev a b) ?_
  refine Ev.bind (specMul_ev a b (by omega) (by omega)) ?_
  simp only [bne_self_eq_false, Bool.false_eq_true, if_false]
  refine Ev.bind (likeInts_ev _ (by have := mulR_len a b; omega)) ?_
  exact times_j a b c
end Go.Proofs.Ytlaliacfonfflaa.Pure
